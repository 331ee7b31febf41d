/- Floats by their bits, with no program in sight: the order of the model's floats is the order of their ranks. No conditions. -/
import Derived.Laws.Cover2
namespace Go.Proofs.YtlmogijkkhdogaaGreatDoor
open Ieee

def B52 : Nat := 4503599627370496
def I52 : Nat := 2047 * 4503599627370496
def W63 : Nat := 9223372036854775808

def fneg (x : Nat) : Bool := x / W63 % 2 == 1
def frung (x : Nat) : Nat := x % W63
def fval (r : Nat) : Nat := if r < B52 then r else (B52 + r % B52) * 2 ^ (r / B52 - 1)
def fsval (x : Nat) : Int := if fneg x then -(fval (frung x) : Int) else fval (frung x)
def fnan (x : Nat) : Bool := decide (I52 < frung x)

theorem dBinade : Ieee.double.binade = B52 := by decide
theorem dInf : Ieee.double.infRung = I52 := by decide
theorem dSign : Ieee.double.signWeight = W63 := by decide
theorem dLeast : Ieee.double.leastPlace = -1074 := by decide

theorem fread (x : Nat) : Ieee.double.read x =
    if frung x < B52 then .number (fneg x) (frung x) (-1074)
    else if frung x < I52 then .number (fneg x) (B52 + frung x % B52) (-1074 + ((frung x / B52 - 1 : Nat) : Int))
    else if frung x = I52 then .infinity (fneg x)
    else .nan (fneg x) (frung x - I52) := by
  unfold Format.read fneg frung
  rw [dBinade, dInf, dSign, dLeast]

theorem fval_lt {r t : Nat} (h : r < t) : fval r < fval t := by
  unfold fval
  have hB : 0 < B52 := by decide
  by_cases h1 : t < B52
  · rw [if_pos (by omega), if_pos h1]; exact h
  · rw [if_neg h1]
    have hq : 1 ≤ t / B52 := (Nat.le_div_iff_mul_le hB).2 (by omega)
    have hp : 0 < 2 ^ (t / B52 - 1) := Nat.two_pow_pos _
    by_cases h2 : r < B52
    · rw [if_pos h2]
      calc r < B52 := h2
        _ ≤ B52 + t % B52 := by omega
        _ = (B52 + t % B52) * 1 := by omega
        _ ≤ (B52 + t % B52) * 2 ^ (t / B52 - 1) := Nat.mul_le_mul_left _ hp
    · rw [if_neg h2]
      have hqr : 1 ≤ r / B52 := (Nat.le_div_iff_mul_le hB).2 (by omega)
      have hle : r / B52 ≤ t / B52 := Nat.div_le_div_right (by omega)
      have hmr : r % B52 < B52 := Nat.mod_lt _ hB
      by_cases h3 : r / B52 = t / B52
      · rw [h3]
        refine Nat.mul_lt_mul_of_pos_right ?_ hp
        have e1 := Nat.div_add_mod r B52
        have e2 := Nat.div_add_mod t B52
        rw [h3] at e1
        omega
      · have hlt : r / B52 ≤ t / B52 - 1 := by omega
        calc (B52 + r % B52) * 2 ^ (r / B52 - 1) < (B52 * 2) * 2 ^ (r / B52 - 1) := Nat.mul_lt_mul_of_pos_right (by omega) (Nat.two_pow_pos _)
          _ = B52 * 2 ^ (r / B52 - 1 + 1) := by rw [Nat.pow_succ, Nat.mul_assoc, Nat.mul_comm 2]
          _ = B52 * 2 ^ (r / B52) := by rw [Nat.sub_add_cancel hqr]
          _ ≤ B52 * 2 ^ (t / B52 - 1) := Nat.mul_le_mul_left _ (Nat.pow_le_pow_right (by omega) hlt)
          _ ≤ (B52 + t % B52) * 2 ^ (t / B52 - 1) := Nat.mul_le_mul_right _ (by omega)

theorem fval_inj {r t : Nat} : fval r = fval t ↔ r = t := by
  constructor
  · intro h
    rcases Nat.lt_trichotomy r t with h1 | h1 | h1
    · have := fval_lt h1; omega
    · exact h1
    · have := fval_lt h1; omega
  · intro h; rw [h]
theorem fval_lt_iff {r t : Nat} : fval r < fval t ↔ r < t := by
  constructor
  · intro h
    rcases Nat.lt_trichotomy r t with h1 | h1 | h1
    · exact h1
    · subst h1; omega
    · have := fval_lt h1; omega
  · exact fval_lt
theorem fval_zero : fval 0 = 0 := rfl

theorem cmp_int (p q : Int) : compare p q = if p < q then .lt else if p = q then .eq else .gt := by
  rw [Int.compare_eq_ite_lt]
  rcases Int.lt_trichotomy p q with h | h | h
  · rw [if_pos h, if_pos h]
  · subst h; simp
  · rw [if_neg (by omega), if_pos h, if_neg (by omega), if_neg (by omega)]

theorem cmp_lt {p q : Int} (h : p < q) : compare p q = .lt := by rw [cmp_int, if_pos h]
theorem cmp_gt {p q : Int} (h : q < p) : compare p q = .gt := by rw [cmp_int, if_neg (by omega), if_neg (by omega)]

theorem cmp_mul (p q k : Int) (hk : 0 < k) : compare (p * k) (q * k) = compare p q := by
  rw [cmp_int, cmp_int]
  have h1 : (p * k < q * k) ↔ p < q := Int.mul_lt_mul_right hk
  have h2 : (p * k = q * k) ↔ p = q := ⟨fun h => Int.eq_of_mul_eq_mul_right (by omega) h, fun h => by rw [h]⟩
  simp only [h1, h2]

theorem signed_shift (s : Bool) (m a c : Nat) (h : c ≤ a) : signed s m a = signed s m (a - c) * ((2 ^ c : Nat) : Int) := by
  have e : m <<< a = m <<< (a - c) * 2 ^ c := by
    rw [Nat.shiftLeft_eq, Nat.shiftLeft_eq, Nat.mul_assoc, ← Nat.pow_add, Nat.sub_add_cancel h]
  unfold signed
  cases s
  · rw [if_neg (by simp), if_neg (by simp), e]; push_cast; rfl
  · rw [if_pos rfl, if_pos rfl, e]; push_cast; rw [Int.neg_mul]

theorem cmp_signed (s t : Bool) (m n a b : Nat) :
    compare (signed s m ((-1074 + (a : Int)) - min (-1074 + (a : Int)) (-1074 + (b : Int))).toNat) (signed t n ((-1074 + (b : Int)) - min (-1074 + (a : Int)) (-1074 + (b : Int))).toNat) =
    compare (signed s m a) (signed t n b) := by
  have e1 : ((-1074 + (a : Int)) - min (-1074 + (a : Int)) (-1074 + (b : Int))).toNat = a - min a b := by omega
  have e2 : ((-1074 + (b : Int)) - min (-1074 + (a : Int)) (-1074 + (b : Int))).toNat = b - min a b := by omega
  rw [e1, e2, signed_shift s m a (min a b) (by omega), signed_shift t n b (min a b) (by omega), cmp_mul _ _ _ (by exact_mod_cast Nat.two_pow_pos _)]

/-- what a finite rung reads as -/
theorem fread_fin (x : Nat) (h : frung x < I52) : ∃ m a : Nat, Ieee.double.read x = .number (fneg x) m (-1074 + (a : Int)) ∧ signed (fneg x) m a = fsval x := by
  rw [fread]
  by_cases h1 : frung x < B52
  · refine ⟨frung x, 0, by rw [if_pos h1]; rfl, ?_⟩
    unfold signed fsval fval
    rw [if_pos h1, Nat.shiftLeft_zero]
  · refine ⟨B52 + frung x % B52, frung x / B52 - 1, by rw [if_neg h1, if_pos h], ?_⟩
    unfold signed fsval fval
    rw [if_neg h1, Nat.shiftLeft_eq]

theorem fsval_inf_pos {x : Nat} (h : frung x = I52) (hn : fneg x = false) {y : Nat} (hy : frung y < I52) : fsval y < fsval x := by
  unfold fsval
  have := fval_lt (show frung y < frung x by omega)
  rw [hn]
  cases fneg y <;> simp <;> omega
theorem fsval_inf_neg {x : Nat} (h : frung x = I52) (hn : fneg x = true) {y : Nat} (hy : frung y < I52) : fsval x < fsval y := by
  unfold fsval
  have := fval_lt (show frung y < frung x by omega)
  rw [hn]
  cases fneg y <;> simp <;> omega

theorem forder_nan_left {x y : Nat} (h : fnan x = true) : Ieee.double.order x y = none := by
  have h' : I52 < frung x := by simpa [fnan] using h
  have hB : B52 ≤ I52 := by decide
  unfold Format.order
  rw [fread x, if_neg (by omega), if_neg (by omega), if_neg (by omega)]
  rfl
theorem forder_nan_right {x y : Nat} (h : fnan y = true) : Ieee.double.order x y = none := by
  have h' : I52 < frung y := by simpa [fnan] using h
  have hB : B52 ≤ I52 := by decide
  unfold Format.order
  rw [fread y, if_neg (by omega), if_neg (by omega), if_neg (by omega)]
  cases Ieee.double.read x <;> rfl

theorem fread_inf {x : Nat} (h : frung x = I52) : Ieee.double.read x = .infinity (fneg x) := by
  have hB : B52 ≤ I52 := by decide
  rw [fread, if_neg (by omega), if_neg (by omega), if_pos h]

theorem forder {x y : Nat} (hx : fnan x = false) (hy : fnan y = false) : Ieee.double.order x y = some (compare (fsval x) (fsval y)) := by
  have hx' : frung x ≤ I52 := by simpa [fnan] using hx
  have hy' : frung y ≤ I52 := by simpa [fnan] using hy
  have hI : 0 < fval I52 := by have := fval_lt (show 0 < I52 by decide); rw [fval_zero] at this; exact this
  unfold Format.order
  rcases Nat.lt_or_ge (frung x) I52 with h1 | h1
  · obtain ⟨m, a, e1, e2⟩ := fread_fin x h1
    rcases Nat.lt_or_ge (frung y) I52 with h2 | h2
    · obtain ⟨n, b, e3, e4⟩ := fread_fin y h2
      rw [e1, e3]
      simp only [Datum.order]
      rw [cmp_signed, e2, e4]
    · have hi : frung y = I52 := by omega
      rw [e1, fread_inf hi]
      simp only [Datum.order]
      cases hn : fneg y
      · have := fsval_inf_pos hi hn h1
        rw [cmp_lt this]; rfl
      · have := fsval_inf_neg hi hn h1
        rw [cmp_gt this]; rfl
  · have hi : frung x = I52 := by omega
    rcases Nat.lt_or_ge (frung y) I52 with h2 | h2
    · obtain ⟨n, b, e3, e4⟩ := fread_fin y h2
      rw [e3, fread_inf hi]
      simp only [Datum.order]
      cases hn : fneg x
      · have := fsval_inf_pos hi hn h2
        rw [cmp_gt this]; rfl
      · have := fsval_inf_neg hi hn h2
        rw [cmp_lt this]; rfl
    · have hj : frung y = I52 := by omega
      rw [fread_inf hi, fread_inf hj]
      simp only [Datum.order]
      unfold fsval
      rw [hi, hj]
      generalize fval I52 = v at *
      cases fneg x <;> cases fneg y <;> simp only [Bool.false_eq_true, if_false, if_true]
      · rw [cmp_int, if_neg (by omega), if_pos rfl]; rfl
      · rw [cmp_gt (by omega)]; rfl
      · rw [cmp_lt (by omega)]; rfl
      · rw [cmp_int, if_neg (by omega), if_pos rfl]; rfl

/-- a float's place: the program's rank -/
def frank (x : Nat) : Nat := if fnan x then 18446744073709551615 else if fneg x then 18446744073709551615 - x else x + W63

theorem fsplit {x : Nat} (h : x < 18446744073709551616) : (fneg x = true ∧ x = W63 + frung x ∧ frung x < W63) ∨ (fneg x = false ∧ x = frung x ∧ frung x < W63) := by
  unfold fneg frung W63
  rcases Nat.lt_or_ge x 9223372036854775808 with h1 | h1
  · right
    refine ⟨?_, by omega, by omega⟩
    have : x / 9223372036854775808 = 0 := by omega
    rw [this]; rfl
  · left
    refine ⟨?_, by omega, by omega⟩
    have : x / 9223372036854775808 = 1 := by omega
    rw [this]; rfl

/-- is a float the one nought or the other? -/
def fzero (x : Nat) : Bool := decide (frung x = 0)

/-- the document's Less, of bits -/
def flessD (x y : Nat) : Bool :=
  if fnan x then false else if fnan y then true
  else if fzero x && fzero y then fneg x && !fneg y
  else decide (fsval x < fsval y)

theorem frank_ok {x : Nat} (hx : x < 18446744073709551616) (h : fnan x = false) : frung x ≤ I52 ∧ (fneg x = true ∧ frank x + frung x + 1 = W63 ∨ fneg x = false ∧ frank x = W63 + frung x) := by
  have h1 : frung x ≤ I52 := by simpa [fnan] using h
  refine ⟨h1, ?_⟩
  have hI : I52 < W63 := by decide
  rcases fsplit hx with ⟨a, b, c⟩ | ⟨a, b, c⟩
  · left; refine ⟨a, ?_⟩; unfold frank; rw [h, a]; simp; unfold W63 at *; omega
  · right; refine ⟨a, ?_⟩; unfold frank; rw [h, a]; simp; omega
theorem frank_nan {x : Nat} (h : fnan x = true) : frank x = 18446744073709551615 := by unfold frank; rw [h]; rfl
theorem frank_lt {x : Nat} (hx : x < 18446744073709551616) (h : fnan x = false) : frank x < 18446744073709551615 := by
  obtain ⟨h1, h2⟩ := frank_ok hx h
  unfold I52 W63 at *
  omega
theorem frank_le {x : Nat} (hx : x < 18446744073709551616) : frank x ≤ 18446744073709551615 := by
  cases h : fnan x
  · have := frank_lt hx h; omega
  · rw [frank_nan h]; omega

theorem fless_eq {x y : Nat} (hx : x < 18446744073709551616) (hy : y < 18446744073709551616) : flessD x y = decide (frank x < frank y) := by
  unfold flessD
  cases hnx : fnan x
  · cases hny : fnan y
    · obtain ⟨h1, h2⟩ := frank_ok hx hnx
      obtain ⟨h3, h4⟩ := frank_ok hy hny
      have l1 := @fval_lt_iff (frung x) (frung y)
      have l2 := @fval_lt_iff (frung y) (frung x)
      have z1 := @fval_inj (frung x) 0
      have z2 := @fval_inj (frung y) 0
      rw [fval_zero] at z1 z2
      simp only [Bool.false_eq_true, if_false]
      unfold fzero fsval
      rcases h2 with ⟨a, b⟩ | ⟨a, b⟩ <;> rcases h4 with ⟨c, d⟩ | ⟨c, d⟩ <;> rw [a, c] <;> by_cases e1 : frung x = 0 <;> by_cases e2 : frung y = 0 <;> simp [e1, e2, fval_zero] <;> omega
    · have := frank_lt hx hnx
      rw [frank_nan hny]; simp; exact this
  · rw [frank_nan hnx]
    have := frank_le hy
    simp; omega

theorem frank_inj {x y : Nat} (hx : x < 18446744073709551616) (hy : y < 18446744073709551616) : (frank x = frank y) ↔ (x = y ∨ (fnan x = true ∧ fnan y = true)) := by
  constructor
  · intro h
    cases hnx : fnan x
    · cases hny : fnan y
      · left
        obtain ⟨h1, h2⟩ := frank_ok hx hnx
        obtain ⟨h3, h4⟩ := frank_ok hy hny
        rcases fsplit hx with ⟨a, b, c⟩ | ⟨a, b, c⟩ <;> rcases fsplit hy with ⟨a', b', c'⟩ | ⟨a', b', c'⟩ <;> simp [a, a'] at h2 h4 <;> omega
      · have := frank_lt hx hnx; rw [frank_nan hny] at h; omega
    · cases hny : fnan y
      · have := frank_lt hy hny; rw [frank_nan hnx] at h; omega
      · right; exact ⟨rfl, rfl⟩
  · rintro (h | ⟨h1, h2⟩)
    · rw [h]
    · rw [frank_nan h1, frank_nan h2]

end Go.Proofs.YtlmogijkkhdogaaGreatDoor
