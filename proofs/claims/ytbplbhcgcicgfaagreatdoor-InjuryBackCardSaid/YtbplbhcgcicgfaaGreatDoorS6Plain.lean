/- Plain laws: searches over windows, ratios in lowest terms, held levels. -/
import Derived.Test.YtbplbhcgcicgfaaGreatDoorS6T2
namespace Go.Vm.S6
abbrev Ra : Type := Int × Int
def cmpM (a b : Ra) : Int := bif decide (a.1 * b.2 < b.1 * a.2) then -1 else bif decide (a.1 * b.2 > b.1 * a.2) then 1 else 0
/-! ### Ratios in lowest terms -/
theorem lowM_self {n d : Int} (hd : 1 ≤ d) : (lowM n d == (n, d)) = (Int.gcd n d == 1) := by
  rw [Bool.eq_iff_iff, beq_iff_eq, beq_iff_eq]
  unfold lowM
  constructor
  · intro h
    have h2 : d / (Int.gcd n d : Int) = d := congrArg Prod.snd h
    have hg : 0 < Int.gcd n d := Int.gcd_pos_of_ne_zero_right _ (by omega)
    have hdv : (Int.gcd n d : Int) ∣ d := Int.gcd_dvd_right ..
    obtain ⟨c, hc⟩ := hdv
    by_cases h1 : Int.gcd n d = 1
    · exact h1
    · exfalso
      have hlt : d / (Int.gcd n d : Int) < d := by
        rw [Int.ediv_lt_iff_lt_mul (by omega)]
        have : d * 1 < d * (Int.gcd n d : Int) := Int.mul_lt_mul_of_pos_left (by omega) (by omega)
        omega
      omega
  · intro h; rw [h]; simp
/-! ### Longest -/
/-! ### Held -/
/-! ### Combined -/
/-! ### Bounds -/
/-! ### The held level of a trace: low, high, under, over -/
end Go.Vm.S6
