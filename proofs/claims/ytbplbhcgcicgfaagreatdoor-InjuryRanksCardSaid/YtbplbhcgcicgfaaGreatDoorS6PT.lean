/- Plain laws: ratios in order. -/
import Derived.Test.YtbplbhcgcicgfaaGreatDoorS6PR
import Derived.Test.YtbplbhcgcicgfaaGreatDoorS6LA
namespace Go.Vm.S6
open Go.Proofs Go.RowKit
/-! ### Ratios in order -/
def atR (l : List P2) (i : Nat) : P2 := (l[i]?).getD (0, 1)
theorem atR_get {l : List P2} {i : Nat} (h : i < l.length) : l[i]? = some (atR l i) := by
  unfold atR
  rw [List.getElem?_eq_getElem h]; rfl
def ltI (l : List P2) (i k : Nat) : Bool := decide (cmpW (atR l i) (atR l k) < 0)
def VaR (l : List P2) : Prop := ∀ x ∈ l, ratErr x = 0
theorem ratAll {x : P2} (h : ratErr x = 0) : (RaB x ∧ PosR x) ∧ Int.gcd x.1 x.2 = 1 := by
  unfold ratErr at h
  cases hs : sizeErr x != 0 with
  | true => rw [hs, cond_true] at h; rw [h] at hs; cases hs
  | false =>
    rw [hs, cond_false] at h
    have h0 : sizeErr x = 0 := by simpa using hs
    obtain ⟨⟨h1, h2⟩, h3, h4⟩ := size_zero.1 h0
    have hg := whenZ (by decide) h
    refine ⟨⟨⟨⟨h1, by omega⟩, by omega, h4⟩, h1, by omega⟩, ?_⟩
    have : ((Int.gcd x.1 x.2 : Nat) : Int) = 1 := by simpa using hg
    omega
theorem cmpRK {x y : P2} (hx : ratErr x = 0) (hy : ratErr y = 0) : cmpW x y = cmpM x y := cmpB (ratAll hx).1.1 (ratAll hy).1.1
theorem vaR_at {l : List P2} (h : VaR l) (i : Nat) : ratErr (atR l i) = 0 := by
  unfold atR
  cases hi : l[i]? with
  | none => rfl
  | some x => exact h x (List.mem_of_getElem? hi)
theorem ltI_iff {l : List P2} (h : VaR l) (i k : Nat) : ltI l i k = true ↔ ltR (atR l i) (atR l k) := by
  unfold ltI
  rw [cmpRK (vaR_at h i) (vaR_at h k), decide_eq_true_eq, cmpM_lt]
theorem swoR {l : List P2} (h : VaR l) : Swo (ltI l) where
  asy i k hik := by
    rw [ltI_iff h] at hik
    cases hk : ltI l k i with
    | false => rfl
    | true => rw [ltI_iff h] at hk; exact absurd hk (not_ltR.2 hik.le)
  neg i j k hik := by
    rw [ltI_iff h] at hik
    cases hij : ltI l i j with
    | true => exact .inl rfl
    | false =>
      have h1 : leR (atR l j) (atR l i) := not_ltR.1 (fun x => by rw [(ltI_iff h i j).2 x] at hij; cases hij)
      exact .inr ((ltI_iff h j k).2 (ltR_of_le_lt (ratAll (vaR_at h j)).1.2 (ratAll (vaR_at h i)).1.2 (ratAll (vaR_at h k)).1.2 h1 hik))
theorem ratEq2 {x y : P2} (hx : ratErr x = 0) (hy : ratErr y = 0) (h1 : leR x y) (h2 : leR y x) : x = y := by
  obtain ⟨⟨_, hx1, hx2⟩, hxg⟩ := ratAll hx
  obtain ⟨⟨_, hy1, hy2⟩, hyg⟩ := ratAll hy
  have he : x.1 * y.2 = y.1 * x.2 := Int.le_antisymm h1 h2
  obtain ⟨a, b⟩ := x
  obtain ⟨c, d⟩ := y
  simp only at *
  obtain ⟨a, rfl⟩ := Int.eq_ofNat_of_zero_le hx1
  obtain ⟨c, rfl⟩ := Int.eq_ofNat_of_zero_le hy1
  obtain ⟨b, rfl⟩ := Int.eq_ofNat_of_zero_le (Int.le_of_lt hx2)
  obtain ⟨d, rfl⟩ := Int.eq_ofNat_of_zero_le (Int.le_of_lt hy2)
  have he : a * d = c * b := by exact_mod_cast he
  have g1 : Nat.Coprime a b := hxg
  have g2 : Nat.Coprime c d := hyg
  have d1 : b ∣ d := g1.symm.dvd_of_dvd_mul_left (he ▸ Nat.dvd_mul_left b c)
  have d2 : d ∣ b := g2.symm.dvd_of_dvd_mul_left (he ▸ Nat.dvd_mul_left d a)
  have hbd : b = d := Nat.dvd_antisymm d1 d2
  subst hbd
  have hb : 0 < b := by omega
  have : a = c := Nat.eq_of_mul_eq_mul_right hb he
  rw [this]
def sortR (l : List P2) : List P2 := (rankR (ltI l) l.length l.length).map (atR l)
theorem range_at (l : List P2) : (List.range l.length).map (atR l) = l := by
  refine List.ext_getElem? fun i => ?_
  rw [List.getElem?_map]
  by_cases hi : i < l.length
  · rw [List.getElem?_range hi, atR_get hi]; rfl
  · rw [List.getElem?_eq_none (by simpa using hi), List.getElem?_eq_none (by omega)]; rfl
theorem sortR_perm {l : List P2} (h : VaR l) : (sortR l).Perm l := by
  unfold sortR
  rw [← rank_eq (swoR h)]
  have := (rankP_perm (ltI l) l.length).map (atR l)
  rwa [range_at] at this
theorem sortR_le {l : List P2} (h : VaR l) : (sortR l).Pairwise leR := by
  unfold sortR
  rw [← rank_eq (swoR h), List.pairwise_map]
  refine (rankP_sorted (swoR h) l.length).imp fun {i k} hik => ?_
  rcases hik with hik | ⟨hik, _⟩
  · exact ((ltI_iff h i k).1 hik).le
  · exact not_ltR.1 fun x => by rw [(ltI_iff h k i).2 x] at hik; cases hik
theorem sortR_unique {l m : List P2} (h : VaR l) (hp : m.Perm l) (hs : m.Pairwise leR) : m = sortR l :=
  perm_unique (fun a ha b hb h1 h2 => ratEq2 (h a (hp.mem_iff.1 ha)) (h b (hp.mem_iff.1 hb)) h1 h2) hs (sortR_le h) (hp.trans (sortR_perm h).symm)
end Go.Vm.S6
