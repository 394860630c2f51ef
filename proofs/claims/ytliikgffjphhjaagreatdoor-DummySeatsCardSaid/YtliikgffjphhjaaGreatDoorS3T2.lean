/- Intervals, boxes, steps. -/
import Derived.Test.YtliikgffjphhjaaGreatDoorS3T1
namespace Go.Vm.S3
open Go.Proofs Go.RowKit
set_option maxRecDepth 100000 in
theorem t185 (a b m : Int) : evTreeD (CS T1) 60 185 [.agg [intA a, intA b], intA m] [] =
    (.done (some (.v (.int .i64 (firstM [withinM a (IntKind.i64.wrap (0 - m)) m, withinM b (IntKind.i64.wrap (0 - m)) m, whenM (decide (a > b)) 11]))))) := by kernel_rfl
set_option maxRecDepth 100000 in
theorem t107 (a b lo hi : Int) : evTreeD (CS T1) 60 107 [.agg [intA a, intA b], intA lo, intA hi] [] =
    (.done (some (.v (.int .i64 (firstM [withinM a lo hi, withinM b lo hi, whenM (decide (a > b)) 11]))))) := by kernel_rfl
set_option maxRecDepth 100000 in
theorem t148 (x y z : Int) : evTreeD (CS T1) 60 148 [.agg [intA x, intA y, intA z]] [] =
    (.done (some (.v (.int .i64 (vecM (x, y, z) 10000))))) := by kernel_rfl
set_option maxRecDepth 100000 in
theorem t152 (a b c d e f x y z : Int) : evTreeD (CS T1) 60 152 [.agg [intA a, intA b, intA c, intA d, intA e, intA f], .agg [intA x, intA y, intA z]] [] =
    (bif decide (x ≥ a) then (bif decide (x ≤ b) then (bif decide (y ≥ c) then (bif decide (y ≤ d) then (bif decide (z ≥ e) then (.done (some (.v (.bool (decide (z ≤ f)))))) else (.done (some (.v (.bool false))))) else (.done (some (.v (.bool false))))) else (.done (some (.v (.bool false))))) else (.done (some (.v (.bool false))))) else (.done (some (.v (.bool false))))) := by kernel_rfl
set_option maxRecDepth 100000 in
theorem t155 (s : ByteArray) (b : Bool) : evTreeD (CS T1) 60 155 [.agg [strA s, boolA b]] [] =
    (bif b then (.done (some (.v (.int .i64 2)))) else (.done (some (.v (.int .i64 1))))) := by kernel_rfl
set_option maxRecDepth 100000 in
theorem t157 (s : ByteArray) (b : Bool) : evTreeD (CS T1) 60 157 [.agg [strA s, boolA b]] [] =
    (.done (some (.v (.string s)))) := by kernel_rfl
set_option maxRecDepth 100000 in
theorem t154 (s : ByteArray) : evTreeD (CS T1) 60 154 [strA s] [] =
    (.done (some (.v (.int .i64 (whenM (!isNameM s) 8))))) := by kernel_rfl
set_option maxRecDepth 100000 in
theorem t106 (s : ByteArray) : evTreeD (CS T1) 60 106 [strA s] [] =
    (.done (some (.v (.int .i64 (whenM (!isNameM s) 8))))) := by kernel_rfl
def ivM (x : I2) (lo hi : Int) : Int := firstM [withinM x.1 lo hi, withinM x.2 lo hi, whenM (decide (x.1 > x.2)) 11]
def iv185G : List AV → Option AV := sp2 ivC intC fun x m => some (intA (ivM x (IntKind.i64.wrap (0 - m)) m))
def iv107G : List AV → Option AV := sp3 ivC intC intC fun x lo hi => some (intA (ivM x lo hi))
def vec1G : List AV → Option AV := sp1 vecC fun v => some (intA (vecM v 10000))
def ge (a b : Int) : Bool := decide (a ≥ b)
def le (a b : Int) : Bool := decide (a ≤ b)
def hasM (b : I6) (p : V3) : Bool := ge p.1 b.1 && (le p.1 b.2.1 && (ge p.2.1 b.2.2.1 && (le p.2.1 b.2.2.2.1 && (ge p.2.2 b.2.2.2.2.1 && le p.2.2 b.2.2.2.2.2))))
def hasG : List AV → Option AV := sp2 bxC vecC fun b p => some (boolA (hasM b p))
def needM (b : Bool) : Int := bif b then 2 else 1
def needG : List AV → Option AV := sp1 stC fun x => some (intA (needM x.2))
def stepNameG : List AV → Option AV := sp1 stC fun x => some (strA x.1)
def nameErr (s : ByteArray) : Int := whenM (!isNameM s) 8
def nameErrG : List AV → Option AV := sp1 strC fun s => some (intA (nameErr s))
theorem h185 : Holds 185 iv185G := holds2 fun x m r hr => by
  simp only [Option.some.injEq] at hr; subst hr; exact T1_ok.tr (t185 x.1 x.2 m) rfl
theorem h107 : Holds 107 iv107G := holds3 fun x lo hi r hr => by
  simp only [Option.some.injEq] at hr; subst hr; exact T1_ok.tr (t107 x.1 x.2 lo hi) rfl
theorem h148 : Holds 148 vec1G := holds1 fun v r hr => by
  simp only [Option.some.injEq] at hr; subst hr; exact T1_ok.tr (t148 v.1 v.2.1 v.2.2) rfl
theorem h152 : Holds 152 hasG := holds2 fun b p r hr => by
  simp only [Option.some.injEq] at hr; subst hr
  refine T1_ok.tr (t152 b.1 b.2.1 b.2.2.1 b.2.2.2.1 b.2.2.2.2.1 b.2.2.2.2.2 p.1 p.2.1 p.2.2) ?_
  unfold hasM
  change (bif ge p.1 b.1 then (bif le p.1 b.2.1 then (bif ge p.2.1 b.2.2.1 then (bif le p.2.1 b.2.2.2.1 then (bif ge p.2.2 b.2.2.2.2.1 then (.done (some (.v (.bool (le p.2.2 b.2.2.2.2.2))))) else (.done (some (.v (.bool false))))) else (.done (some (.v (.bool false))))) else (.done (some (.v (.bool false))))) else (.done (some (.v (.bool false))))) else (.done (some (.v (.bool false)))) : Dt AV).ok _
  cases ge p.1 b.1 <;> cases le p.1 b.2.1 <;> cases ge p.2.1 b.2.2.1 <;> cases le p.2.1 b.2.2.2.1 <;> cases ge p.2.2 b.2.2.2.2.1 <;> rfl
theorem h155 : Holds 155 needG := holds1 fun x r hr => by
  simp only [Option.some.injEq] at hr; subst hr
  refine T1_ok.tr (t155 x.1 x.2) ?_
  unfold needM
  cases x.2 <;> rfl
theorem h157 : Holds 157 stepNameG := holds1 fun x r hr => by
  simp only [Option.some.injEq] at hr; subst hr; exact T1_ok.tr (t157 x.1 x.2) rfl
theorem h154 : Holds 154 nameErrG := holds1 fun s r hr => by
  simp only [Option.some.injEq] at hr; subst hr; exact T1_ok.tr (t154 s) rfl
theorem h106 : Holds 106 nameErrG := holds1 fun s r hr => by
  simp only [Option.some.injEq] at hr; subst hr; exact T1_ok.tr (t106 s) rfl
def T2 : Specs := (((((((T1.set 185 iv185G).set 107 iv107G).set 148 vec1G).set 152 hasG).set 155 needG).set 157 stepNameG).set 154 nameErrG).set 106 nameErrG
theorem T2_ok : Ok T2 := (((((((T1_ok.set h185).set h107).set h148).set h152).set h155).set h157).set h154).set h106
end Go.Vm.S3
