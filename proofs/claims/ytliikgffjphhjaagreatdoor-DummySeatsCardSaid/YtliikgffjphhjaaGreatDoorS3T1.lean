/- Coders of the seats' values; what is specified so far. -/
import Derived.Test.YtliikgffjphhjaaGreatDoorS3Name
namespace Go.Vm.S3
open Go.Proofs Go.RowKit
abbrev I2 : Type := Int × Int
abbrev I6 : Type := Int × Int × Int × Int × Int × Int
abbrev ivA (x : I2) : AV := .agg [intA x.1, intA x.2]
abbrev bxA (b : I6) : AV := .agg [intA b.1, intA b.2.1, intA b.2.2.1, intA b.2.2.2.1, intA b.2.2.2.2.1, intA b.2.2.2.2.2]
abbrev stA (x : ByteArray × Bool) : AV := .agg [strA x.1, boolA x.2]
abbrev sgA (x : ByteArray × ByteArray) : AV := .agg [strA x.1, strA x.2]
def ivC : Cod I2 := aggC (RC.cons intC (RC.one intC))
def bxC : Cod I6 := aggC (RC.cons intC (RC.cons intC (RC.cons intC (RC.cons intC (RC.cons intC (RC.one intC))))))
def stC : Cod (ByteArray × Bool) := aggC (RC.cons strC (RC.one boolC))
def sgC : Cod (ByteArray × ByteArray) := aggC (RC.cons strC (RC.one strC))
def T1 : Specs := (S3.set 207 nameG).set 179 nameG
theorem T1_ok : Ok T1 := (S3_ok.set (name207 S3_ok)).set (name179 S3_ok)
end Go.Vm.S3
