/- Whole floats: what is cut off a float, and how it is told. No program in sight. -/
import Derived.Test.YtlmogijkkhdogaaGreatDoorFe
namespace Go.Proofs.YtlmogijkkhdogaaGreatDoor
open Ieee
set_option maxRecDepth 100000

theorem cut_zero (s : Bool) (n drop : Nat) : Toward.zero.cut s n drop = n / 2 ^ drop := by
  unfold Toward.cut
  simp only [Bool.toNat_false, Nat.add_zero, Nat.one_shiftLeft]
  by_cases h : drop ≤ n.log2 + 2
  · rw [Nat.min_eq_left h]
  · rw [Nat.min_eq_right (by omega)]
    have h1 : n < 2 ^ (n.log2 + 1) := Nat.lt_log2_self
    have h2 : 2 ^ (n.log2 + 1) ≤ 2 ^ (n.log2 + 2) := Nat.pow_le_pow_right (by omega) (by omega)
    have h3 : 2 ^ (n.log2 + 2) ≤ 2 ^ drop := Nat.pow_le_pow_right (by omega) (by omega)
    rw [Nat.div_eq_of_lt (by omega), Nat.div_eq_of_lt (by omega)]

def K74 : Nat := 1074
/-- a float's whole part, without its sign. -/
def fwhole (x : Nat) : Nat := fval (frung x) / 2 ^ K74
theorem fread_fin2 (x : Nat) (h : frung x < I52) : ∃ m a : Nat, Ieee.double.read x = .number (fneg x) m (-1074 + (a : Int)) ∧ m * 2 ^ a = fval (frung x) := by
  rw [fread]
  by_cases h1 : frung x < B52
  · refine ⟨frung x, 0, by rw [if_pos h1]; rfl, ?_⟩
    unfold fval
    rw [if_pos h1]; simp
  · refine ⟨B52 + frung x % B52, frung x / B52 - 1, by rw [if_neg h1, if_pos h], ?_⟩
    unfold fval
    rw [if_neg h1]
theorem integral_eq {x : Nat} (h : frung x < I52) : (Ieee.double.read x).integral .zero = .number (fneg x) (fwhole x) 0 := by
  obtain ⟨m, a, e1, e2⟩ := fread_fin2 x h
  rw [e1]
  simp only [Datum.integral, cut_zero]
  congr 1
  unfold fwhole
  rw [← e2, Nat.shiftLeft_eq]
  have hK : K74 = 1074 := rfl
  by_cases ha : a ≤ K74
  · rw [show (-1074 + (a : Int)).toNat = 0 by omega, show (-(-1074 + (a : Int))).toNat = K74 - a by omega, Nat.pow_zero, Nat.mul_one]
    rw [show (2 : Nat) ^ K74 = 2 ^ (K74 - a) * 2 ^ a by rw [← Nat.pow_add, Nat.sub_add_cancel ha], Nat.mul_comm (2 ^ (K74 - a)), ← Nat.div_div_eq_div_mul, Nat.mul_div_cancel _ (Nat.two_pow_pos a)]
  · rw [show (-1074 + (a : Int)).toNat = a - K74 by omega, show (-(-1074 + (a : Int))).toNat = 0 by omega, Nat.pow_zero, Nat.div_one]
    rw [show (2 : Nat) ^ a = 2 ^ (a - K74) * 2 ^ K74 by rw [← Nat.pow_add, Nat.sub_add_cancel (by omega)], ← Nat.mul_assoc, Nat.mul_div_cancel _ (Nat.two_pow_pos K74)]

/-- a float cut towards nought. -/
def ftrunc (x : Nat) : Nat := Ieee.double.write (.number (fneg x) (fwhole x) 0)
/-- a float's whole number. -/
def fint (x : Nat) : Int := if fneg x then -(fwhole x : Int) else (fwhole x : Int)
theorem toInt_eq {x : Nat} (h : frung x < I52) : (Ieee.double.read x).toInt .zero = some (fint x) := by
  unfold Datum.toInt
  rw [integral_eq h]
  simp only [signed, fint, Nat.shiftLeft_zero]

theorem write_rung (s : Bool) (m : Nat) (p : Int) : fnan (Ieee.double.write (.number s m p)) = false ∧ Ieee.double.write (.number s m p) < 18446744073709551616 := by
  have hI : I52 < W63 := by decide
  have key : ∀ (s : Bool) (r : Nat), r ≤ I52 → fnan (Ieee.double.word s r) = false ∧ Ieee.double.word s r < 18446744073709551616 := by
    intro s r hr
    have e : frung (Ieee.double.word s r) = r := by
      unfold Format.word
      rw [dSign]
      unfold frung
      cases s
      · rw [if_neg (by simp), Nat.mod_eq_of_lt (by omega)]
      · rw [if_pos rfl, Nat.add_mod_left, Nat.mod_eq_of_lt (by omega)]
    refine ⟨?_, ?_⟩
    · unfold fnan; rw [e]; exact decide_eq_false (by omega)
    · unfold Format.word; rw [dSign]; unfold W63 at *; split <;> omega
  show fnan (Ieee.double.nearest s m p) = false ∧ Ieee.double.nearest s m p < 18446744073709551616
  unfold Format.nearest
  split
  · exact key s 0 (by decide)
  · refine key s _ ?_
    rw [dInf]; exact Nat.min_le_right _ _
theorem word_zero (s : Bool) : Ieee.double.word s 0 = if s then W63 else 0 := by unfold Format.word; rw [dSign]; cases s <;> rfl

/-- is a float whole? (as the program asks) -/
def fisW (x : Nat) : Bool := Ieee.double.order x (ftrunc x) == some .eq
theorem order_sym (x y : Nat) (hx : fnan x = false) (hy : fnan y = false) : (Ieee.double.order x y == some .eq) = (Ieee.double.order y x == some .eq) := by
  rw [forder hx hy, forder hy hx, cmp_int, cmp_int]
  rcases Int.lt_trichotomy (fsval x) (fsval y) with h | h | h
  · rw [if_pos h, if_neg (by omega), if_neg (by omega)]; rfl
  · rw [h]
  · rw [if_neg (by omega), if_neg (by omega), if_pos h]; rfl
/-- as the document asks. -/
theorem isW_doc {x : Nat} (hx : frung x < I52) (hx2 : x < 18446744073709551616) : (Ieee.double.order (FloatKind.f64.nearest (fint x)) x == some .eq) = fisW x := by
  have hn : fnan x = false := by unfold fnan; exact decide_eq_false (by omega)
  obtain ⟨t1, t2⟩ := write_rung (fneg x) (fwhole x) 0
  have e : FloatKind.f64.nearest (fint x) = Ieee.double.write (.number (decide (fint x < 0)) (fint x).natAbs 0) := rfl
  obtain ⟨u1, u2⟩ := write_rung (decide (fint x < 0)) (fint x).natAbs 0
  unfold fisW
  rw [e, order_sym _ _ u1 hn]
  by_cases hc : fwhole x = 0
  · have e1 : fint x = 0 := by unfold fint; rw [hc]; split <;> rfl
    have e2 : ftrunc x = if fneg x then W63 else 0 := by
      unfold ftrunc; rw [hc]
      show Ieee.double.nearest (fneg x) 0 0 = _
      unfold Format.nearest; rw [if_pos rfl, word_zero]
    have e3 : Ieee.double.write (.number (decide (fint x < 0)) (fint x).natAbs 0) = 0 := by
      rw [e1]
      show Ieee.double.nearest (decide ((0 : Int) < 0)) 0 0 = 0
      unfold Format.nearest; rw [if_pos rfl, word_zero]; rfl
    rw [e2, e3, forder hn (by rfl)]
    cases fneg x
    · rw [if_neg (by simp), forder hn (by rfl)]
    · rw [if_pos rfl, forder hn (by decide)]
      congr 1
  · congr 2
    unfold ftrunc
    have h1 : decide (fint x < 0) = fneg x := by
      unfold fint
      cases fneg x
      · rw [if_neg (by simp)]; exact decide_eq_false (by omega)
      · rw [if_pos rfl]; exact decide_eq_true (by omega)
    have h2 : (fint x).natAbs = fwhole x := by unfold fint; split <;> omega
    rw [h1, h2]

/-- does a float's whole number fit 64 bits? -/
def ffits (x : Nat) : Bool := decide (fsval 14114281232179134464 ≤ fsval x) && decide (fsval x < fsval 4890909195324358656)
theorem fits_int {x : Nat} (h : ffits x = true) : -9223372036854775808 ≤ fint x ∧ fint x ≤ 9223372036854775807 := by
  unfold ffits at h
  rw [Bool.and_eq_true, decide_eq_true_eq, decide_eq_true_eq] at h
  have c2 : fsval 4890909195324358656 = ((9223372036854775808 * 2 ^ K74 : Nat) : Int) := by kernel_rfl
  have c1 : fsval 14114281232179134464 = -((9223372036854775808 * 2 ^ K74 : Nat) : Int) := by kernel_rfl
  rw [c1, c2] at h
  obtain ⟨h1, h2⟩ := h
  have hp : 0 < 2 ^ K74 := Nat.two_pow_pos K74
  unfold fint fwhole
  unfold fsval at h1 h2
  generalize (2 : Nat) ^ K74 = P at *
  generalize fval (frung x) = v at *
  cases hs : fneg x
  · rw [hs] at h1 h2
    simp only [Bool.false_eq_true, if_false] at h1 h2 ⊢
    have hv : v < 9223372036854775808 * P := by omega
    have := (Nat.div_lt_iff_lt_mul hp).2 hv
    generalize v / P = q at *
    clear h1 h2 hv
    omega
  · rw [hs] at h1 h2
    simp only [if_true] at h1 h2 ⊢
    have hv : v ≤ 9223372036854775808 * P := by omega
    have h3 : v / P ≤ 9223372036854775808 := by
      have := Nat.div_le_div_right (c := P) hv
      rwa [Nat.mul_div_cancel _ hp] at this
    generalize v / P = q at *
    clear h1 h2 hv
    omega
end Go.Proofs.YtlmogijkkhdogaaGreatDoor
