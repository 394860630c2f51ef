/- Coders of the seats' values; what is specified so far. -/
import Derived.Test.YtliikgffjphhjaaGreatDoorS3GA
import Derived.Test.YtliikgffjphhjaaGreatDoorVmH
import Derived.Test.YtliikgffjphhjaaGreatDoorVmG
namespace Go.Vm.S3
open Go.Proofs Go.RowKit
abbrev I2 : Type := Int × Int
abbrev I6 : Type := Int × Int × Int × Int × Int × Int
abbrev ivA (x : I2) : AV := .agg [iA x.1, iA x.2]
def ivC : Cod I2 := aggC (RC.cons intC (RC.one intC))
def T1 : Specs := ((S3.set 207 nameG).set 179 nameG)
theorem T1_ok : Ok T1 := ((S3_ok.set (name207 S3_ok)).set (name179 S3_ok))
end Go.Vm.S3

namespace Go.Vm.S3
open Go.Proofs Go.RowKit
set_option maxRecDepth 100000
theorem t185 (a b m : Int) : L T1 185 [.agg [iA a, iA b], iA m] [] [] (iA (firstM [withinM a (IntKind.i64.wrap (0 - m)) m, withinM b (IntKind.i64.wrap (0 - m)) m, whenM (decide (a > b)) 11])) := kR (by kernel_rfl)
theorem t107 (a b lo hi : Int) : L T1 107 [.agg [iA a, iA b], iA lo, iA hi] [] [] (iA (firstM [withinM a lo hi, withinM b lo hi, whenM (decide (a > b)) 11])) := kR (by kernel_rfl)
theorem t154 (s : ByteArray) : L T1 154 [sA s] [] [] (iA (whenM (!isNameM s) 8)) := kR (by kernel_rfl)
theorem t106 (s : ByteArray) : L T1 106 [sA s] [] [] (iA (whenM (!isNameM s) 8)) := kR (by kernel_rfl)
def ivM (x : I2) (lo hi : Int) : Int := firstM [withinM x.1 lo hi, withinM x.2 lo hi, whenM (decide (x.1 > x.2)) 11]
def iv185G : List AV → Option AV := sp2 ivC intC fun x m => some (iA (ivM x (IntKind.i64.wrap (0 - m)) m))
def iv107G : List AV → Option AV := sp3 ivC intC intC fun x lo hi => some (iA (ivM x lo hi))
def ge (a b : Int) : Bool := decide (a ≥ b)
def le (a b : Int) : Bool := decide (a ≤ b)
def needM (b : Bool) : Int := bif b then 2 else 1
def nameErr (s : ByteArray) : Int := whenM (!isNameM s) 8
def nameErrG : List AV → Option AV := sp1 strC fun s => some (iA (nameErr s))
theorem h185 : Holds 185 iv185G := holds2 fun x m r hr => by
 simp only [Option.some.injEq] at hr; subst hr; exact T1_ok.tr (t185 x.1 x.2 m) rfl
theorem h107 : Holds 107 iv107G := holds3 fun x lo hi r hr => by
 simp only [Option.some.injEq] at hr; subst hr; exact T1_ok.tr (t107 x.1 x.2 lo hi) rfl
theorem h154 : Holds 154 nameErrG := holds1 fun s r hr => by
 simp only [Option.some.injEq] at hr; subst hr; exact T1_ok.tr (t154 s) rfl
theorem h106 : Holds 106 nameErrG := holds1 fun s r hr => by
 simp only [Option.some.injEq] at hr; subst hr; exact T1_ok.tr (t106 s) rfl
def T2 : Specs := ((((T1.set 185 iv185G).set 107 iv107G).set 154 nameErrG).set 106 nameErrG)
theorem T2_ok : Ok T2 := ((((T1_ok.set h185).set h107).set h154).set h106)
end Go.Vm.S3

namespace Go.Vm.S3
open Go.Proofs Go.RowKit
abbrev lim : Nat := 1000000
section
variable {S : Specs} {f : FuncId} {α β : Type} {A : Cod α} {B : Cod β} {fv : AV} {g : α → β} {sza szb bb : Nat}
abbrev mapIn (fv a : AV) (sza : Nat) (es : List AV) (n i : Nat) : List AV := [fv, a, .rsl sza es false, iA (Int.ofNat n), iA (Int.ofNat i)]
theorem mapped_ok (hS : Ok S) (x0 : α) (hB : ∀ y, closed (B.enc y) = true) (hbb : bb ≤ 1024 ∧ bb ≠ 0)
  (ra : ∀ (es : List AV) (n i : Nat) (x : α), roundD (CS S) 60 0 f 0 22 22 false (lO (CS S) f 0) [1, 5, 8, 9, 10] [] [1, 5, 8, 9, 10] [19] [5] [] (mapIn fv nilS sza es n i) [] [.chk [A.enc x]] =
   (bif decide (Int.ofNat i < Int.ofNat n) then (.need (es[i]? = some (A.enc x)) (.need (EnC [(false, .arr szb [B.enc (g x)] false)]) (.done (some (.nrm, [fv, .sl 19 0 szb 0 1, .rsl sza es false, iA (Int.ofNat n), iA (IntKind.i64.wrap (Int.ofNat i + 1))], [(false, .arr szb [B.enc (g x)] false)]))))) else (.need (EnC []) (.done (some (.exit 0, [nilS], []))))))
  (rb : ∀ (es rs : List AV) (n i k : Nat) (x : α), roundD (CS S) 60 0 f 0 22 22 false (lO (CS S) f 0) [1, 5, 8, 9, 10] [19] [1, 5, 8, 9, 10] [19] [5] [19] (mapIn fv (.sl 19 0 szb 0 k) sza es n i) [(false, .arr szb rs false)] [.chk [A.enc x], .chk rs] =
   (bif decide (Int.ofNat i < Int.ofNat n) then (.need (es[i]? = some (A.enc x)) (.need (k = rs.length ∧ true = true ∧ szb = szb ∧ (rs ++ [B.enc (g x)]).length * bb ≤ 35184372088832 ∧ (rs ++ [B.enc (g x)]).length ≤ 35184372088832 ∧ bb ≠ 0)
    (.need (EnC [(false, .arr szb (rs ++ [B.enc (g x)]) false)]) (.done (some (.nrm, [fv, .sl 19 0 szb 0 (rs ++ [B.enc (g x)]).length, .rsl sza es false, iA (Int.ofNat n), iA (IntKind.i64.wrap (Int.ofNat i + 1))], [(false, .arr szb (rs ++ [B.enc (g x)]) false)])))))) else (.need (EnC [(false, .arr szb rs false)]) (.done (some (.exit 0, [.sl 19 0 szb 0 k], [(false, .arr szb rs false)]))))))
  (t : ∀ (es rs : List AV), evTreeD (CS S) 60 f [.rsl sza es false, fv] [.loop 0 [1, 5, 8, 9, 10] [] [5] [] (.exit 0) [.rsl szb rs false] []] =
   (.need (EnC [] ∧ EnC [] ∧ Says (CS S) 0 22 false (.loop (lO (CS S) f 0)) (mkSt [1, 5, 8, 9, 10] [] 22 (mapIn fv nilS sza es es.length 0) []) (.exit 0) (mkSt [5] [] 22 [.rsl szb rs false] [])) (.done (some (.rsl szb rs false)))))
  (l : List α) (hl : l.length ≤ lim) : Cmp f [slA A sza l, fv] (slA B szb (l.map g)) := by
 have hlim : l.length < two63 := by unfold lim at hl; unfold two63; omega
 have hcl : ∀ m : List β, ClosedL (m.map B.enc) := fun m => ClosedL.map hB
 have h := LoopRun.gather (C := CS S) (p := 0) (nt := 22) (rd := false) (c := lO (CS S) f 0) (fun _ x => [g x]) 1 (by simp) (fun i (acc : List β) => blSt 19 szb [1, 5, 8, 9, 10] 22 (fun a => mapIn fv a sza (l.map A.enc) l.length i) (acc.map B.enc)) (.exit 0)
  (fun acc => mkSt [5] [] 22 [.rsl szb (acc.map B.enc) false] []) l (by simp)
  (fun i x acc hx hacc => by
   have hi := lt_len hx
   have hlen : ((acc ++ [g x]).map B.enc).length ≤ 35184372088832 / 1024 := by simp; unfold lim at hl; omega
   have hw := wrap_ix hi hlim
   cases acc with
   | nil =>
    refine hS.rndN (ra (l.map A.enc) l.length i x) ?_
    rw [lt_of hi, hw]
    exact ⟨get_map _ hx, ⟨hcl [g x], trivial⟩, rfl⟩
   | cons y ys =>
    have e : blSt 19 szb [1, 5, 8, 9, 10] 22 (fun a => mapIn fv a sza (l.map A.enc) l.length (i + 1)) (((y :: ys) ++ [g x]).map B.enc) = mkSt [1, 5, 8, 9, 10] [19] 22 (mapIn fv (.sl 19 0 szb 0 ((y :: ys).map B.enc ++ [B.enc (g x)]).length) sza (l.map A.enc) l.length (i + 1)) [(false, .arr szb ((y :: ys).map B.enc ++ [B.enc (g x)]) false)] := by
     rw [show ((y :: ys) ++ [g x]).map B.enc = (y :: ys).map B.enc ++ [B.enc (g x)] by simp]; rfl
    show Says _ _ _ _ _ _ _ (blSt 19 szb [1, 5, 8, 9, 10] 22 (fun a => mapIn fv a sza (l.map A.enc) l.length (i + 1)) (((y :: ys) ++ [g x]).map B.enc))
    rw [e]
    refine hS.rndN (rb (l.map A.enc) ((y :: ys).map B.enc) l.length i ((y :: ys).map B.enc).length x) ?_
    rw [lt_of hi, hw]
    rw [show ((y :: ys) ++ [g x]).map B.enc = (y :: ys).map B.enc ++ [B.enc (g x)] by simp] at hlen
    exact ⟨get_map _ hx, ⟨rfl, rfl, rfl, by have := Nat.mul_le_mul hlen hbb.1; omega, by omega, hbb.2⟩, ⟨(hcl (y :: ys)).append (hcl [g x]), trivial⟩, rfl⟩)
  (fun acc _ => by
   refine Says.blEnd (key := 19) ?_ (hcl acc)
   cases acc with
   | nil => exact hS.rndX (ra (l.map A.enc) l.length l.length x0) (by rw [lt_self]; exact ⟨trivial, rfl⟩)
   | cons y ys => exact hS.rndX (rb (l.map A.enc) ((y :: ys).map B.enc) l.length l.length ((y :: ys).map B.enc).length x0) (by rw [lt_self]; exact ⟨⟨hcl (y :: ys), trivial⟩, rfl⟩))
 rw [gath_map] at h
 refine hS.tr (t (l.map A.enc) ((l.map g).map B.enc)) ⟨⟨trivial, trivial, ?_⟩, rfl⟩
 rw [List.length_map]
 exact h.says
end
def fnV (f : FuncId) : AV := .fn (.func f) [] []
def isFn (f : FuncId) : AV → Bool
 | .fn (.func f') [] [] => Nat.beq f' f
 | _ => false
def fnC (f : FuncId) : Cod Unit := oneC (fnV f) (isFn f) (fun b hb => by
 unfold isFn at hb
 split at hb
 ·rw [Nat.eq_of_beq_eq_true hb]; exact Weak.rfl
 ·cases hb) (by simp [isFn, fnV])
def mapG {α β : Type} (A : Cod α) (sza : Nat) (B : Cod β) (szb : Nat) (f : FuncId) (g : α → β) : List AV → Option AV :=
 sp2 (listC A sza) (fnC f) fun l _ => bif Nat.ble l.length lim then some (slA B szb (l.map g)) else none
theorem mapG_holds {α β : Type} {A : Cod α} {sza : Nat} {B : Cod β} {szb : Nat} {f0 f : FuncId} {g : α → β} (h : ∀ l : List α, l.length ≤ lim → Cmp f0 [slA A sza l, fnV f] (slA B szb (l.map g))) : Holds f0 (mapG A sza B szb f g) := holds2 fun l _ r hr => by
 cases hb : Nat.ble l.length lim with
 | false => simp [hb] at hr
 | true =>
  simp only [hb, cond_true, Option.some.injEq] at hr; subst hr
  exact h l (Nat.le_of_ble_eq_true hb)
end Go.Vm.S3

namespace Go.Vm.S3
open Go.Proofs Go.RowKit
def T3 : Specs := T2
theorem T3_ok : Ok T3 := T2_ok
end Go.Vm.S3

namespace Go.Vm.S3
open Go.Proofs Go.RowKit
def T4 : Specs := T3
theorem T4_ok : Ok T4 := T3_ok
end Go.Vm.S3

namespace Go.Vm.S3
open Go.Proofs Go.RowKit
set_option maxRecDepth 100000
theorem r77 (S : Specs) (es : List AV) (s x : ByteArray) (i : Nat) : rn S 77 18 0 [0, 1, 5] [] [0, 1, 5] [] [4] [] [.rsl 1 es false, sA s, iA (Int.ofNat i)] [] [.chk [sA x]] =
  (bif decide (Int.ofNat i < Int.ofNat es.length) then (.need (es[i]? = (some (sA x))) (bif x.toList == s.toList then (dn [] (.ret, [bA true], [])) else (dn [] (.nrm, [.rsl 1 es false, sA s, iA (IntKind.i64.wrap (Int.ofNat i + 1))], [])))) else (dn [] ((.exit 0), [.bad], []))) := by kernel_rfl
theorem t77r (S : Specs) (es : List AV) (s : ByteArray) : L S 77 [.rsl 1 es false, sA s] [.loop 0 [0, 1, 5] [] [4] [] .ret [bA true] []] [.l 18 77 0 18 [.rsl 1 es false, sA s, iA 0] []] (bA true) := kR (by kernel_rfl)
theorem t77e (S : Specs) (es : List AV) (s : ByteArray) : L S 77 [.rsl 1 es false, sA s] [.loop 0 [0, 1, 5] [] [4] [] (.exit 0) [.bad] []] [.l 18 77 0 18 [.rsl 1 es false, sA s, iA 0] []] (bA false) := kR (by kernel_rfl)
theorem r78 (S : Specs) (es fs : List AV) (x y : ByteArray) (i : Nat) : rn S 78 26 0 [0, 1, 5] [] [0, 1, 5] [] [4] [] [.rsl 1 es false, .rsl 1 fs false, iA (Int.ofNat i)] [] [.chk [sA x], .chk [sA y]] =
  (bif decide (Int.ofNat i < Int.ofNat es.length) then (.need (es[i]? = (some (sA x))) (.need (fs[i]? = (some (sA y))) (bif !x.toList == y.toList then (dn [] (.ret, [bA false], [])) else (dn [] (.nrm, [.rsl 1 es false, .rsl 1 fs false, iA (IntKind.i64.wrap (Int.ofNat i + 1))], []))))) else (dn [] ((.exit 0), [.bad], []))) := by kernel_rfl
theorem t78r (S : Specs) (es fs : List AV) : ev S 78 [.rsl 1 es false, .rsl 1 fs false] [.loop 0 [0, 1, 5] [] [4] [] .ret [bA false] []] =
  (bif Int.ofNat es.length != Int.ofNat fs.length then (.done (some (bA false))) else (.need (EnC [] ∧ EnC [] ∧ Says (CS S) 0 26 false (.loop (lO (CS S) 78 0)) (mkSt [0, 1, 5] [] 26 [.rsl 1 es false, .rsl 1 fs false, iA 0] []) .ret (mkSt [4] [] 26 [bA false] [])) (.done (some (bA false))))) := by kernel_rfl
theorem t78e (S : Specs) (es fs : List AV) : ev S 78 [.rsl 1 es false, .rsl 1 fs false] [.loop 0 [0, 1, 5] [] [4] [] (.exit 0) [.bad] []] =
  (bif Int.ofNat es.length != Int.ofNat fs.length then (.done (some (bA false))) else (.need (EnC [] ∧ EnC [] ∧ Says (CS S) 0 26 false (.loop (lO (CS S) 78 0)) (mkSt [0, 1, 5] [] 26 [.rsl 1 es false, .rsl 1 fs false, iA 0] []) (.exit 0) (mkSt [4] [] 26 [.bad] [])) (.done (some (bA true))))) := by kernel_rfl
def seq (x y : ByteArray) : Bool := x.toList == y.toList
theorem e_len {α : Type} (f : α → AV) (l : List α) : Int.ofNat (l.map f).length = Int.ofNat l.length := by simp
theorem lt2 {α β : Type} {l : List α} {m : List β} {i : Nat} {x : α × β} (h : (l.zip m)[i]? = some x) : l[i]? = some x.1 ∧ m[i]? = some x.2 := by
 rw [List.getElem?_zip_eq_some] at h; exact h
abbrev strE (s : ByteArray) : AV := sA s
abbrev strsA (l : List ByteArray) : AV := .rsl 1 (l.map strE) false
def hasWordM (l : List ByteArray) (s : ByteArray) : Bool := l.any fun x => seq x s
theorem srch_any {α τ : Type} {p : α → Bool} {t : τ} : ∀ (l : List α) (i : Nat), srch (fun _ x => bif p x then some t else none) i l = bif l.any p then some t else none
 | [], i => rfl
 | x :: r, i => by
  unfold srch
  cases h : p x with
  | true => simp [h]
  | false => simp [h, srch_any r]
theorem hasWord_ok {S : Specs} (hS : Ok S) : Holds 77 (sp2 (listC strC 1) strC fun l s => bif Nat.blt l.length two63 then some (bA (hasWordM l s)) else none) := holds2 fun l s r hr => by
 cases hb : Nat.blt l.length two63 with
 | false => simp [hb] at hr
 | true =>
  simp only [hb, cond_true, Option.some.injEq] at hr; subst hr
  have hl : l.length < two63 := Nat.le_of_ble_eq_true hb
  have h := LoopRun.search (l := l) (f := fun _ x => bif seq x s then some () else none) (C := CS S) (p := 0) (nt := 18) (rd := false) (c := lO (CS S) 77 0) (enc := fun i => mkSt [0, 1, 5] [] 18 [strsA l, sA s, iA (Int.ofNat i)] [])
   (out := fun _ => mkSt [4] [] 18 [bA true] []) (miss := mkSt [4] [] 18 [.bad] []) (ex := fun _ => .ret) (ex2 := .exit 0) (by simp) (by simp)
   (fun i x hx => by
    have hi := lt_len hx
    have e := e_len strE l
    cases h : seq x s with
    | true => exact hS.rndR (r77 S (l.map strE) s x i) (by rw [e, lt_of hi]; change _ ∧ (bif seq x s then _ else _ : Dt _).ok _; rw [h]; exact ⟨get_map _ hx, trivial, rfl⟩)
    | false => exact hS.rndN (r77 S (l.map strE) s x i) (by rw [e, lt_of hi, wrap_ix hi hl]; change _ ∧ (bif seq x s then _ else _ : Dt _).ok _; rw [h]; exact ⟨get_map _ hx, trivial, rfl⟩))
   (hS.rndX (r77 S (l.map strE) s s l.length) (by rw [e_len, lt_self]; exact ⟨trivial, rfl⟩))
  rw [srch_any] at h
  unfold hasWordM
  cases ha : l.any (fun x => seq x s) with
  | true => rw [ha] at h; exact hS.tr (t77r S (l.map strE) s) ⟨⟨trivial, trivial, h.says⟩, rfl⟩
  | false => rw [ha] at h; exact hS.tr (t77e S (l.map strE) s) ⟨⟨trivial, trivial, h.says⟩, rfl⟩
def sameM {α : Type} (eq : α → α → Bool) (l m : List α) : Bool := l.length == m.length && (l.zip m).all fun p => eq p.1 p.2
theorem srch_all {α τ : Type} {p : α → Bool} {t : τ} : ∀ (l : List α) (i : Nat), srch (fun _ x => bif p x then none else some t) i l = bif l.all p then none else some t
 | [], i => rfl
 | x :: r, i => by
  unfold srch
  cases h : p x with
  | true => simp [h, srch_all r]
  | false => simp [h]
theorem ne_len {α β : Type} {f : α → AV} {g : β → AV} (l : List α) (m : List β) : (Int.ofNat (l.map f).length != Int.ofNat (m.map g).length) = !(l.length == m.length) := by
 have : (Int.ofNat l.length == Int.ofNat m.length) = (l.length == m.length) := by
  rw [Bool.eq_iff_iff]; simp only [beq_iff_eq]; exact ⟨fun h => Int.ofNat.inj h, fun h => by rw [h]⟩
 simp only [List.length_map, bne, this]
theorem sameWords_ok {S : Specs} (hS : Ok S) : Holds 78 (sp2 (listC strC 1) (listC strC 1) fun l m => bif Nat.blt l.length two63 then some (bA (sameM seq l m)) else none) := holds2 fun l m r hr => by
 cases hb : Nat.blt l.length two63 with
 | false => simp [hb] at hr
 | true =>
  simp only [hb, cond_true, Option.some.injEq] at hr; subst hr
  have hl : l.length < two63 := Nat.le_of_ble_eq_true hb
  unfold sameM
  cases hq : l.length == m.length with
  | false =>
   refine hS.tr (t78e S (l.map strE) (m.map strE)) ?_
   rw [ne_len, hq]; rfl
  | true =>
   have hlm : l.length = m.length := by simpa using hq
   have hz : (l.zip m).length = l.length := by rw [List.length_zip]; omega
   have h := LoopRun.search (l := l.zip m) (f := fun _ x => bif seq x.1 x.2 then none else some ()) (C := CS S) (p := 0) (nt := 26) (rd := false) (c := lO (CS S) 78 0) (enc := fun i => mkSt [0, 1, 5] [] 26 [strsA l, strsA m, iA (Int.ofNat i)] [])
    (out := fun _ => mkSt [4] [] 26 [bA false] []) (miss := mkSt [4] [] 26 [.bad] []) (ex := fun _ => .ret) (ex2 := .exit 0) (by simp) (by simp)
    (fun i x hx => by
     have hi := lt_len hx
     rw [hz] at hi
     obtain ⟨h1, h2⟩ := lt2 hx
     have e := e_len strE l
     cases h : seq x.1 x.2 with
     | true => exact hS.rndN (r78 S (l.map strE) (m.map strE) x.1 x.2 i) (by rw [e, lt_of hi, wrap_ix hi hl]; change _ ∧ _ ∧ (bif !seq x.1 x.2 then _ else _ : Dt _).ok _; rw [h]; exact ⟨get_map _ h1, get_map _ h2, trivial, rfl⟩)
     | false => exact hS.rndR (r78 S (l.map strE) (m.map strE) x.1 x.2 i) (by rw [e, lt_of hi]; change _ ∧ _ ∧ (bif !seq x.1 x.2 then _ else _ : Dt _).ok _; rw [h]; exact ⟨get_map _ h1, get_map _ h2, trivial, rfl⟩))
    (by rw [hz]; exact hS.rndX (r78 S (l.map strE) (m.map strE) ⟨#[]⟩ ⟨#[]⟩ l.length) (by rw [e_len, lt_self]; exact ⟨trivial, rfl⟩))
   rw [srch_all] at h
   cases ha : (l.zip m).all (fun x => seq x.1 x.2) with
   | true => rw [ha] at h; exact hS.tr (t78e S (l.map strE) (m.map strE)) (by rw [ne_len, hq]; exact ⟨⟨trivial, trivial, h.says⟩, rfl⟩)
   | false => rw [ha] at h; exact hS.tr (t78r S (l.map strE) (m.map strE)) (by rw [ne_len, hq]; exact ⟨⟨trivial, trivial, h.says⟩, rfl⟩)
end Go.Vm.S3

namespace Go.Vm.S3
open Go.Proofs Go.RowKit
def findM (l : List (ByteArray × Bool)) (s : ByteArray) : Int := (srch (fun i x => bif seq x.1 s then some (Int.ofNat i) else none) 0 l).getD (-1)
def personsM (l : List (ByteArray × ByteArray)) (s : ByteArray) : List ByteArray := (l.filter fun x => seq x.1 s).map fun x => x.2
theorem closedStr (m : List ByteArray) : ClosedL (m.map sA) := ClosedL.map fun _ => rfl
theorem srch_err {α : Type} (g : α → Int) : ∀ (l : List α) (i : Nat), srch (fun _ x => bif g x != 0 then some (g x) else none) i l = bif firstM (l.map g) != 0 then some (firstM (l.map g)) else none
 | [], _ => rfl
 | x :: r, i => by
  unfold srch
  rw [List.map_cons]
  unfold firstM
  cases h : g x != 0 with
  | true => simp [h]
  | false => simp only [cond_false]; exact srch_err g r (i + 1)
def manyM (n : Nat) (most : Int) : Int := firstM [whenM (Int.ofNat n == 0) 12, whenM (decide (Int.ofNat n > most)) 5]
def T5 : Specs := T4
theorem T5_ok : Ok T5 := T4_ok
end Go.Vm.S3

namespace Go.Vm.S3
open Go.Proofs Go.RowKit
theorem limTwo {n : Nat} (h : n ≤ lim) : n < two63 := by unfold lim at h; unfold two63; omega
def doneM (x : ByteArray × Bool) (l : List (ByteArray × ByteArray)) : Bool :=
 bif decide (Int.ofNat (personsM l x.1).length ≥ 2) then true else bif Int.ofNat (personsM l x.1).length == 1 then !x.2 else false
def T6 : Specs := T5
theorem T6_ok : Ok T6 := T5_ok
end Go.Vm.S3

namespace Go.Vm.S3
open Go.Proofs Go.RowKit
def srchE {α : Type} (F : Nat → α → Int) (l : List α) : Int := (srch (fun i x => bif F i x != 0 then some (F i x) else none) 0 l).getD 0
def stepErr (l : List (ByteArray × Bool)) (i : Nat) (x : ByteArray × Bool) : Int := firstM [nameErr x.1, whenM (decide (findM (l.take i) x.1 ≥ 0)) 9]
def stepsM (l : List (ByteArray × Bool)) : Int := bif manyM l.length 32 != 0 then manyM l.length 32 else srchE (stepErr l) l
theorem take_map {α β : Type} (f : α → β) (l : List α) (i : Nat) : List.take (i - 0) (List.drop 0 (l.map f)) = (l.take i).map f := by
 rw [List.drop_zero, Nat.sub_zero, List.map_take]
theorem spec108 {l : List Int} (hl : Nat.ble l.length lim = true) : firstG [slA intC 1 l] = some (iA (firstM l)) := by
 have h := sp1_at (A := listC intC 1) (F := firstF) l
 have h2 : Nat.blt l.length two63 = true := Nat.ble_eq_true_of_le (limTwo (Nat.le_of_ble_eq_true hl))
 unfold firstF at h
 rw [h2] at h
 exact h
theorem firstZ (x : Int) (r : List Int) : firstM (x :: r) = 0 ↔ x = 0 ∧ firstM r = 0 := by
 by_cases hx : x = 0
 ·subst hx
  show firstM r = 0 ↔ _
  simp
 ·have : (x != 0) = true := by simp [hx]
  unfold firstM
  rw [this]
  simp [hx]
def T7 : Specs := T6
theorem T7_ok : Ok T7 := T6_ok
end Go.Vm.S3

namespace Go.Vm.S3
open Go.Proofs Go.RowKit
theorem bseq_comm (x y : ByteArray) : bseq x y = seq y x := by unfold bseq seq; rw [Bool.eq_iff_iff]; simp only [beq_iff_eq]; exact ⟨Eq.symm, Eq.symm⟩
theorem findIx_bound {s : ByteArray} : ∀ {ks : List ByteArray} {i j : Nat}, findIx s ks i = some j → i ≤ j ∧ j < i + ks.length
 | [], i, j, h => by simp [findIx] at h
 | a :: r, i, j, h => by
  unfold findIx at h
  cases hb : bseq s a with
  | true => rw [hb] at h; simp only [cond_true, Option.some.injEq] at h; subst h; simp
  | false => rw [hb] at h; have := findIx_bound (ks := r) h; simp only [List.length_cons]; omega
theorem srch_findIx (s : ByteArray) : ∀ (l : List (ByteArray × Bool)) (i : Nat), srch (fun i (x : ByteArray × Bool) => bif seq x.1 s then some (Int.ofNat i) else none) i l = (findIx s (l.map fun x => x.1) i).map Int.ofNat
 | [], _ => rfl
 | x :: r, i => by
  unfold srch
  rw [List.map_cons]
  unfold findIx
  rw [bseq_comm]
  cases seq x.1 s with
  | true => rfl
  | false => exact srch_findIx s r (i + 1)
theorem findM_ix (l : List (ByteArray × Bool)) (s : ByteArray) : findM l s = ((findIx s (l.map fun x => x.1) 0).map Int.ofNat).getD (-1) := by
 unfold findM
 rw [srch_findIx]
theorem findM_ge (l : List (ByteArray × Bool)) (s : ByteArray) : decide (findM l s ≥ 0) = (findIx s (l.map fun x => x.1) 0).isSome := by
 rw [findM_ix]
 cases findIx s (l.map fun x => x.1) 0 with
 | none => rfl
 | some j => simp
set_option maxRecDepth 100000 in
theorem map196 (S : Specs) : StrMap (CS S) 196 (.int .i64 0) := strMap_of (kt := 9) (et := 3) (zb := isZero) isZero_eq (by kernel_rfl)
theorem take_succ_map {α β : Type} (f : α → β) {l : List α} {i : Nat} {x : α} (h : l[i]? = some x) : (l.take (i + 1)).map f = (l.take i).map f ++ [f x] := by
 rw [List.take_add_one, h]; simp
def T8 : Specs := T7
theorem T8_ok : Ok T8 := T7_ok
end Go.Vm.S3

namespace Go.Vm.S3
open Go.Proofs Go.RowKit
set_option maxRecDepth 100000
def sgEq (x y : ByteArray × ByteArray) : Bool := bseq x.1 y.1 && bseq x.2 y.2
end Go.Vm.S3

namespace Go.Vm.S3
open Go.Proofs Go.RowKit
def names (l : List (ByteArray × Bool)) : List ByteArray := l.map fun x => x.1
def idxA (n : Nat) : List AV := (List.range n).map fun j => iA (Int.ofNat j)
theorem closedIdx (n : Nat) : ClosedL (idxA n) := ClosedL.map fun _ => rfl
def signErr (l : List (ByteArray × Bool)) (m : List (ByteArray × ByteArray)) (i : Nat) (s : ByteArray × ByteArray) (nx : Nat) : Int :=
 firstM [whenM (!(findIx s.1 (names l) 0).isSome) 10, nameErr s.2, whenM (decide (Int.ofNat ((findIx s.1 (names l) 0).getD 0) < Int.ofNat nx)) 23, whenM (decide (Int.ofNat ((findIx s.1 (names l) 0).getD 0) > Int.ofNat nx)) 11, whenM ((m.take i).any (sgEq s)) 9]
def twoOf (l : List (ByteArray × Bool)) (nx : Nat) : Bool := (l[nx]?.map fun x => x.2).getD false
theorem srch_none {α τ : Type} : ∀ (l : List α) (i : Nat), srch (fun _ _ => (none : Option τ)) i l = none
 | [], _ => rfl
 | _ :: r, i => by unfold srch; exact srch_none r (i + 1)
theorem srch_all_none {α τ : Type} {f : Nat → α → Option τ} : ∀ (l : List α) (i0 : Nat), srch f i0 l = none → ∀ i x, l[i]? = some x → f (i0 + i) x = none
 | [], _, _, i, x, hx => by simp at hx
 | y :: r, i0, h, i, x, hx => by
  unfold srch at h
  cases hf : f i0 y with
  | some t => rw [hf] at h; cases h
  | none =>
   rw [hf] at h
   cases i with
   | zero => simp only [List.getElem?_cons_zero, Option.some.injEq] at hx; subst hx; exact hf
   | succ i =>
    rw [List.getElem?_cons_succ] at hx
    have := srch_all_none r (i0 + 1) h i x hx
    rw [show i0 + (i + 1) = i0 + 1 + i by omega]
    exact this
theorem srch_some_ne {α : Type} {F : Nat → α → Int} : ∀ (l : List α) (i : Nat) {t : Int}, srch (fun i x => bif F i x != 0 then some (F i x) else none) i l = some t → t ≠ 0
 | [], _, t, h => by simp [srch] at h
 | x :: r, i, t, h => by
  unfold srch at h
  cases hf : F i x != 0 with
  | true => simp only [hf, cond_true, Option.some.injEq] at h; subst h; simpa using hf
  | false => simp only [hf, cond_false] at h; exact srch_some_ne r (i + 1) h
theorem steps_fresh {l : List (ByteArray × Bool)} (h : stepsM l = 0) {i : Nat} {x : ByteArray × Bool} (hx : l[i]? = some x) : findIx x.1 (names (l.take i)) 0 = none := by
 unfold stepsM at h
 cases hm : manyM l.length 32 != 0 with
 | true => rw [hm, cond_true] at h; rw [h] at hm; exact absurd hm (by decide)
 | false =>
  rw [hm, cond_false] at h
  unfold srchE at h
  cases hq : srch (fun i x => bif stepErr l i x != 0 then some (stepErr l i x) else none) 0 l with
  | some t => rw [hq] at h; exact absurd h (srch_some_ne l 0 hq)
  | none =>
   have h1 := srch_all_none l 0 hq i x hx
   rw [Nat.zero_add] at h1
   cases h0 : stepErr l i x != 0 with
   | true => rw [h0] at h1; cases h1
   | false =>
    have h2 : stepErr l i x = 0 := by simpa using h0
    unfold stepErr at h2
    rw [findM_ge, firstZ, firstZ] at h2
    have h3 := h2.2.1
    cases hf : findIx x.1 (names (l.take i)) 0 with
    | none => rfl
    | some j =>
     rw [show (findIx x.1 ((l.take i).map fun x => x.1) 0) = some j from hf] at h3
     have h4 : whenM true 9 = 0 := h3
     exact absurd h4 (by decide)
def T9 : Specs := T8
theorem T9_ok : Ok T9 := T8_ok
end Go.Vm.S3

namespace Go.Vm.S3
open Go.Proofs Go.RowKit
def T10 : Specs := ((T9.set 77 (sp2 (listC strC 1) strC fun l s => bif Nat.blt l.length two63 then some (bA (hasWordM l s)) else none)).set 78 (sp2 (listC strC 1) (listC strC 1) fun l m => bif Nat.blt l.length two63 then some (bA (sameM seq l m)) else none))
theorem T10_ok : Ok T10 := ((T9_ok.set (hasWord_ok T9_ok)).set (sameWords_ok T9_ok))
end Go.Vm.S3

namespace Go.Vm.S3
open Go.Proofs Go.RowKit
theorem spec78 {l m : List ByteArray} (hl : Nat.blt l.length two63 = true) : sp2 (listC strC 1) (listC strC 1) (fun l m => bif Nat.blt l.length two63 then some (bA (sameM seq l m)) else none) [slA strC 1 l, slA strC 1 m] = some (bA (sameM seq l m)) := by
 have h := sp2_at (A := listC strC 1) (B := listC strC 1) (F := fun l m => bif Nat.blt l.length two63 then some (bA (sameM seq l m)) else none) l m
 rw [hl] at h
 exact h
def T11 : Specs := T10
theorem T11_ok : Ok T11 := T10_ok
end Go.Vm.S3
