/- Products and quotients of floats that are no NaN: they are there, and no NaN. No program in sight. -/
import Derived.Test.YtlmogijkkhdogaaGreatDoorGh
import Derived.Laws.FloatArith
namespace Go.Proofs.YtlmogijkkhdogaaGreatDoor
open Ieee
set_option maxRecDepth 100000

theorem write_inf (s : Bool) : fnan (Ieee.double.write (.infinity s)) = false ∧ Ieee.double.write (.infinity s) < 18446744073709551616 := by cases s <;> decide
theorem fread_num {x : Nat} (h : fnan x = false) : (∃ s m e, Ieee.double.read x = .number s m e) ∨ ∃ s, Ieee.double.read x = .infinity s := by
  have h1 : frung x ≤ I52 := by simpa [fnan] using h
  by_cases h2 : frung x = I52
  · exact Or.inr ⟨_, fread_inf h2⟩
  · obtain ⟨m, a, e, _⟩ := fread_fin x (by omega)
    exact Or.inl ⟨_, _, _, e⟩
/-- a float that is a number, and no nought. -/
def fgood (y : Nat) : Bool := match Ieee.double.read y with
  | .number _ n _ => n != 0
  | _ => false
theorem fgood_iff {y : Nat} (h : fgood y = true) : ∃ s n e, Ieee.double.read y = .number s n e ∧ n ≠ 0 := by
  unfold fgood at h
  split at h
  · rename_i s n e he; exact ⟨s, n, e, he, by simpa using h⟩
  · cases h
theorem mul_ex {x y : Nat} (hx : fnan x = false) (hy : fgood y = true) : ∃ r, r < 18446744073709551616 ∧ fnan r = false ∧ floatBits .mul .f64 x y = some r := by
  obtain ⟨s, n, e, he, hn⟩ := fgood_iff hy
  show ∃ r, _ ∧ _ ∧ ((Ieee.double.read x).product (Ieee.double.read y)).map Ieee.double.write = some r
  rcases fread_num hx with ⟨t, m, p, hp⟩ | ⟨t, hp⟩
  · rw [hp, he]
    obtain ⟨a, b⟩ := write_rung (t ^^ s) (m * n) (p + e)
    exact ⟨_, b, a, rfl⟩
  · rw [hp, he]
    obtain ⟨a, b⟩ := write_inf (t ^^ s)
    refine ⟨_, b, a, ?_⟩
    simp only [Datum.product, if_neg hn, Option.map_some]
theorem div_ex {x y : Nat} (hx : fnan x = false) (hy : fgood y = true) : ∃ r, r < 18446744073709551616 ∧ fnan r = false ∧ floatBits .quo .f64 x y = some r := by
  obtain ⟨s, n, e, he, hn⟩ := fgood_iff hy
  show ∃ r, _ ∧ _ ∧ ((Ieee.double.read x).quotient (Ieee.double.fractionBits + 2) (Ieee.double.read y)).map Ieee.double.write = some r
  rcases fread_num hx with ⟨t, m, p, hp⟩ | ⟨t, hp⟩
  · rw [hp, he]
    simp only [Datum.quotient, if_neg hn, Option.map_some]
    have := write_rung (t ^^ s) (2 * ((m <<< (Ieee.double.fractionBits + 2 + n.log2 - m.log2)) / n) + ((m <<< (Ieee.double.fractionBits + 2 + n.log2 - m.log2)) % n != 0).toNat) (p - e - ((Ieee.double.fractionBits + 2 + n.log2 - m.log2 : Nat) : Int) - 1)
    exact ⟨_, this.2, this.1, rfl⟩
  · rw [hp, he]
    obtain ⟨a, b⟩ := write_inf (t ^^ s)
    exact ⟨_, b, a, rfl⟩
/-- the float of a whole number. -/
theorem ofInt_ok (n : Int) : floatOfInt .f64 n < 18446744073709551616 ∧ fnan (floatOfInt .f64 n) = false := by
  have := write_rung (decide (n < 0)) n.natAbs 0
  exact ⟨this.2, this.1⟩
end Go.Proofs.YtlmogijkkhdogaaGreatDoor
