/- strconv's leftShift, plain: how many figures a product by a power of two has. -/
import Derived.Test.YtlmogijkkhdogaaGreatDoorHe
import GoSem.PinnedTables
namespace Go.Proofs.YtlmogijkkhdogaaGreatDoor
open Go.RowKit
set_option maxRecDepth 100000

/-- the value of m figures from i on. -/
def valR (d : Nat → Nat) : Nat → Nat → Nat
  | _, 0 => 0
  | i, m + 1 => (d i - 48) * 10 ^ m + valR d (i + 1) m
def cval : List UInt8 → Nat
  | [] => 0
  | x :: c => (x.toNat - 48) * 10 ^ c.length + cval c
def cdig (c : List UInt8) : Bool := c.all fun x => 48 ≤ x.toNat && x.toNat ≤ 57

theorem valR_lt (d : Nat → Nat) : ∀ (m i : Nat), (∀ j, i ≤ j → j < i + m → 48 ≤ d j ∧ d j ≤ 57) → valR d i m < 10 ^ m
  | 0, i, _ => by simp [valR]
  | m + 1, i, h => by
    have h1 := valR_lt d m (i + 1) fun j a b => h j (by omega) (by omega)
    have h2 := h i (by omega) (by omega)
    have h3 : (d i - 48) * 10 ^ m ≤ 9 * 10 ^ m := Nat.mul_le_mul_right _ (by omega)
    rw [Nat.pow_succ]
    show (d i - 48) * 10 ^ m + valR d (i + 1) m < _
    omega
theorem cval_lt : ∀ c : List UInt8, cdig c = true → cval c < 10 ^ c.length
  | [], _ => by simp [cval]
  | x :: c, h => by
    simp only [cdig, List.all_cons, Bool.and_eq_true, decide_eq_true_eq] at h
    have h1 := cval_lt c h.2
    have h3 : (x.toNat - 48) * 10 ^ c.length ≤ 9 * 10 ^ c.length := Nat.mul_le_mul_right _ (by omega)
    rw [List.length_cons, Nat.pow_succ]
    show (x.toNat - 48) * 10 ^ c.length + cval c < _
    omega

/-- the comparison by figures is the comparison by worth. -/
theorem preL_iff (d : Nat → Nat) (n : Nat) : ∀ (c : List UInt8) (i : Nat), i ≤ n → cdig c = true → (∀ t x, c = t ++ [x] → x.toNat ≠ 48) → (∀ j, i ≤ j → j < n → 48 ≤ d j ∧ d j ≤ 57) →
    (preL d n c i = true ↔ valR d i (n - i) * 10 ^ c.length < cval c * 10 ^ (n - i))
  | [], i, _, _, _, _ => by simp [preL, cval]
  | x :: c, i, hi, hc, hl, hd => by
    have hc' : cdig c = true := by simp only [cdig, List.all_cons, Bool.and_eq_true] at hc ⊢; exact hc.2
    have hx : 48 ≤ x.toNat ∧ x.toNat ≤ 57 := by simp only [cdig, List.all_cons, Bool.and_eq_true, decide_eq_true_eq] at hc; exact hc.1
    have hl' : ∀ t y, c = t ++ [y] → y.toNat ≠ 48 := fun t y h => hl (x :: t) y (by rw [h]; rfl)
    rcases Nat.lt_or_ge i n with h | h
    · obtain ⟨m, hm⟩ : ∃ m, n - i = m + 1 := ⟨n - i - 1, by omega⟩
      have hm' : n - (i + 1) = m := by omega
      have ih := preL_iff d n c (i + 1) (by omega) hc' hl' fun j a b => hd j (by omega) b
      rw [hm'] at ih
      have hdi := hd i (Nat.le_refl _) h
      have v1 := valR_lt d m (i + 1) fun j a b => hd j (by omega) (by omega)
      have v2 := cval_lt c hc'
      have e1 : valR d i (n - i) = (d i - 48) * 10 ^ m + valR d (i + 1) m := by rw [hm]; rfl
      have e2 : cval (x :: c) = (x.toNat - 48) * 10 ^ c.length + cval c := rfl
      have e3 : preL d n (x :: c) i = if n ≤ i then true else if d i = x.toNat then preL d n c (i + 1) else decide (d i < x.toNat) := rfl
      rw [e1, e2, e3, if_neg (by omega), hm, List.length_cons, Nat.pow_succ, Nat.pow_succ]
      generalize valR d (i + 1) m = V at *
      generalize cval c = C at *
      generalize hL : 10 ^ c.length = L at *
      generalize hM : 10 ^ m = M at *
      obtain ⟨a, ha⟩ : ∃ a, a = d i - 48 := ⟨_, rfl⟩
      obtain ⟨b, hb⟩ : ∃ b, b = x.toNat - 48 := ⟨_, rfl⟩
      rw [← ha, ← hb]
      have hL0 : 0 < L := by omega
      have hM0 : 0 < M := by omega
      have x1 : (a * M + V) * (L * 10) = a * (M * L * 10) + V * L * 10 := by rw [Nat.add_mul]; congr 1 <;> ac_rfl
      have x2 : (b * L + C) * (M * 10) = b * (M * L * 10) + C * M * 10 := by rw [Nat.add_mul]; congr 1 <;> ac_rfl
      have x3 : V * L < M * L := Nat.mul_lt_mul_of_pos_right v1 hL0
      have x4 : C * M < M * L := by rw [Nat.mul_comm M L]; exact Nat.mul_lt_mul_of_pos_right v2 hM0
      rw [x1, x2]
      split
      · rename_i he
        obtain rfl : a = b := by omega
        rw [ih]
        omega
      · rename_i he
        rw [decide_eq_true_iff]
        rcases Nat.lt_or_ge a b with hab | hab
        · have : a * (M * L * 10) + M * L * 10 ≤ b * (M * L * 10) := by
            rw [← Nat.succ_mul]; exact Nat.mul_le_mul_right _ hab
          constructor
          · intro _; omega
          · intro _; omega
        · have : b * (M * L * 10) + M * L * 10 ≤ a * (M * L * 10) := by
            rw [← Nat.succ_mul]; exact Nat.mul_le_mul_right _ (by omega)
          constructor
          · intro h; omega
          · intro h; omega
    · have hni : n - i = 0 := by omega
      have e3 : preL d n (x :: c) i = true := if_pos h
      rw [e3, hni]
      simp only [valR, Nat.zero_mul, Nat.pow_zero, Nat.mul_one, true_iff]
      have hpos : ∀ c : List UInt8, c ≠ [] → cdig c = true → (∀ t x, c = t ++ [x] → x.toNat ≠ 48) → 0 < cval c := by
        intro c
        induction c with
        | nil => intro h; exact absurd rfl h
        | cons y c ih =>
          intro _ h1 h2
          have h1' : cdig c = true := by simp only [cdig, List.all_cons, Bool.and_eq_true] at h1 ⊢; exact h1.2
          have hy : 48 ≤ y.toNat := by simp only [cdig, List.all_cons, Bool.and_eq_true, decide_eq_true_eq] at h1; exact h1.1.1
          show 0 < (y.toNat - 48) * 10 ^ c.length + cval c
          cases c with
          | nil =>
            have := h2 [] y rfl
            simp [cval]; omega
          | cons z c =>
            have := ih (by simp) h1' fun t x h => h2 (y :: t) x (by rw [h]; rfl)
            omega
      exact hpos (x :: c) (by simp) hc hl

/-- what a cheat of leftShift must be. -/
structure Cheat (k δ : Nat) (c : List UInt8) : Prop where
  dig : cdig c = true
  last : ∀ t x, c = t ++ [x] → x.toNat ≠ 48
  val : cval c = 5 ^ k
  len : c.length + δ = k + 1
  lo : 10 ^ δ ≤ 2 ^ k * 10
  hi : 2 ^ k < 10 ^ δ
  d1 : 1 ≤ δ
  d20 : δ ≤ 20
  l100 : c.length ≤ 100

def cheatB (k : Nat) (δ : Nat) (c : List UInt8) : Bool :=
  cdig c && (match c.getLast? with | some x => x.toNat != 48 | none => true) && cval c == 5 ^ k && c.length + δ == k + 1 && decide (10 ^ δ ≤ 2 ^ k * 10) && decide (2 ^ k < 10 ^ δ) && decide (1 ≤ δ) && decide (δ ≤ 20) && decide (c.length ≤ 100)
theorem cheat_of {k δ : Nat} {c : List UInt8} (h : cheatB k δ c = true) : Cheat k δ c := by
  simp only [cheatB, Bool.and_eq_true, decide_eq_true_eq, beq_iff_eq] at h
  obtain ⟨⟨⟨⟨⟨⟨⟨⟨h1, h2⟩, h3⟩, h4⟩, h5⟩, h6⟩, h7⟩, h8⟩, h9⟩ := h
  refine ⟨h1, fun t x e => ?_, h3, h4, h5, h6, h7, h8, h9⟩
  rw [e] at h2
  simpa using h2

/-- by how many figures the product is longer. -/
def dlt (D : Dec) (δ : Nat) (c : List UInt8) : Nat := if preL D.d D.nd c 0 then δ - 1 else δ
theorem valR_ge {D : Dec} (h1 : 1 ≤ D.nd) (h0 : 49 ≤ D.d 0) : 10 ^ D.nd ≤ valR D.d 0 D.nd * 10 := by
  obtain ⟨m, hm⟩ : ∃ m, D.nd = m + 1 := ⟨D.nd - 1, by omega⟩
  rw [hm, Nat.pow_succ]
  show 10 ^ m * 10 ≤ ((D.d 0 - 48) * 10 ^ m + valR D.d 1 m) * 10
  have : 1 * 10 ^ m ≤ (D.d 0 - 48) * 10 ^ m := Nat.mul_le_mul_right _ (by omega)
  omega
theorem dlt_ok {D : Dec} {k δ : Nat} {c : List UInt8} (hf : Fit D) (hc : Cheat k δ c) : 10 ^ (D.nd + dlt D δ c) ≤ valR D.d 0 D.nd * 2 ^ k * 10 ∧ valR D.d 0 D.nd * 2 ^ k < 10 ^ (D.nd + dlt D δ c) := by
  have hi := preL_iff D.d D.nd c 0 (Nat.zero_le _) hc.dig hc.last fun j _ h => hf.dig j h
  have v1 := valR_lt D.d D.nd 0 fun j _ h => hf.dig j (by omega)
  have v2 := valR_ge hf.n1 hf.d0
  have h10 : (10 : Nat) ^ k = 5 ^ k * 2 ^ k := by rw [← Nat.mul_pow]
  have hlen := hc.len
  have hd1 := hc.d1
  rw [hc.val, Nat.sub_zero] at hi
  have hL0 : 0 < 10 ^ c.length := Nat.pow_pos (by decide)
  have hK0 : 0 < 2 ^ k := Nat.pow_pos (by decide)
  obtain ⟨e, rfl⟩ : ∃ e, δ = e + 1 := ⟨δ - 1, by omega⟩
  have hke : k = c.length + e := by omega
  have hkk : 5 ^ k * 10 ^ D.nd * 2 ^ k = 10 ^ (D.nd + e) * 10 ^ c.length := by
    have : (10 : Nat) ^ (D.nd + e) * 10 ^ c.length = 10 ^ D.nd * 10 ^ k := by
      rw [← Nat.pow_add, ← Nat.pow_add]; congr 1; omega
    rw [this, h10]; ac_rfl
  unfold dlt
  by_cases hb : preL D.d D.nd c 0 = true
  · rw [if_pos hb]
    have hlt := hi.1 hb
    rw [Nat.add_sub_cancel]
    constructor
    · have h1 : 10 ^ D.nd * 10 ^ (e + 1) ≤ valR D.d 0 D.nd * 10 * (2 ^ k * 10) := Nat.mul_le_mul v2 hc.lo
      have h2 : 10 ^ D.nd * 10 ^ (e + 1) = 10 ^ (D.nd + e) * 10 := by rw [← Nat.pow_add, ← Nat.add_assoc, Nat.pow_succ]
      have h3 : valR D.d 0 D.nd * 10 * (2 ^ k * 10) = valR D.d 0 D.nd * 2 ^ k * 10 * 10 := by ac_rfl
      omega
    · have h1 : valR D.d 0 D.nd * 10 ^ c.length * 2 ^ k < 5 ^ k * 10 ^ D.nd * 2 ^ k := Nat.mul_lt_mul_of_pos_right hlt hK0
      rw [hkk, show valR D.d 0 D.nd * 10 ^ c.length * 2 ^ k = valR D.d 0 D.nd * 2 ^ k * 10 ^ c.length from by ac_rfl] at h1
      exact Nat.lt_of_mul_lt_mul_right h1
  · rw [if_neg hb]
    have hge : 5 ^ k * 10 ^ D.nd ≤ valR D.d 0 D.nd * 10 ^ c.length := by
      rcases Nat.lt_or_ge (valR D.d 0 D.nd * 10 ^ c.length) (5 ^ k * 10 ^ D.nd) with h | h
      · exact absurd (hi.2 h) hb
      · exact h
    constructor
    · have h1 : 5 ^ k * 10 ^ D.nd * 2 ^ k ≤ valR D.d 0 D.nd * 10 ^ c.length * 2 ^ k := Nat.mul_le_mul_right _ hge
      rw [hkk, show valR D.d 0 D.nd * 10 ^ c.length * 2 ^ k = valR D.d 0 D.nd * 2 ^ k * 10 ^ c.length from by ac_rfl] at h1
      have h2 := Nat.le_of_mul_le_mul_right h1 hL0
      rw [← Nat.add_assoc, Nat.pow_succ]
      omega
    · rw [Nat.pow_add]
      exact Nat.mul_lt_mul'' v1 hc.hi

def xs (D : Dec) (m : Nat) : Nat := if m < D.nd then D.d (D.nd - 1 - m) - 48 else 0
def lc (D : Dec) (k : Nat) : Nat → Nat
  | 0 => 0
  | m + 1 => (lc D k m + xs D m * 2 ^ k) / 10
def lo (D : Dec) (k m : Nat) : Nat := (lc D k m + xs D m * 2 ^ k) % 10

theorem xs_le {D : Dec} (hd : DigOk D) (m : Nat) : xs D m ≤ 9 := by
  unfold xs; split
  · have := hd (D.nd - 1 - m) (by omega); omega
  · omega
theorem lc_lt {D : Dec} {k : Nat} (hd : DigOk D) : ∀ m, lc D k m < 2 ^ k
  | 0 => Nat.pow_pos (by decide)
  | m + 1 => by
    have h := lc_lt (k := k) hd m
    have h2 : xs D m * 2 ^ k ≤ 9 * 2 ^ k := Nat.mul_le_mul_right _ (xs_le hd m)
    show (lc D k m + xs D m * 2 ^ k) / 10 < 2 ^ k
    omega
theorem lc_val (D : Dec) (k : Nat) : ∀ m, m ≤ D.nd → lc D k m = valR D.d (D.nd - m) m * 2 ^ k / 10 ^ m
  | 0, _ => by simp [lc, valR]
  | m + 1, h => by
    have ih := lc_val D k m (by omega)
    have e1 : D.nd - (m + 1) + 1 = D.nd - m := by omega
    have hx : xs D m = D.d (D.nd - (m + 1)) - 48 := by unfold xs; rw [if_pos (by omega), show D.nd - 1 - m = D.nd - (m + 1) from by omega]
    show (lc D k m + xs D m * 2 ^ k) / 10 = ((D.d (D.nd - (m + 1)) - 48) * 10 ^ m + valR D.d (D.nd - (m + 1) + 1) m) * 2 ^ k / 10 ^ (m + 1)
    rw [e1, ← hx, ih, Nat.pow_succ, ← Nat.div_div_eq_div_mul]
    congr 1
    rw [show (xs D m * 10 ^ m + valR D.d (D.nd - m) m) * 2 ^ k = valR D.d (D.nd - m) m * 2 ^ k + 10 ^ m * (xs D m * 2 ^ k) from by rw [Nat.add_mul, Nat.add_comm]; congr 1; ac_rfl]
    rw [Nat.add_mul_div_left _ _ (Nat.pow_pos (by decide))]
theorem lc_ext (D : Dec) (k : Nat) : ∀ e, lc D k (D.nd + e) = valR D.d 0 D.nd * 2 ^ k / 10 ^ (D.nd + e)
  | 0 => by have := lc_val D k D.nd (Nat.le_refl _); rw [Nat.sub_self] at this; exact this
  | e + 1 => by
    have hx : xs D (D.nd + e) = 0 := by unfold xs; rw [if_neg (by omega)]
    show (lc D k (D.nd + e) + xs D (D.nd + e) * 2 ^ k) / 10 = _
    rw [hx, lc_ext D k e, Nat.zero_mul, Nat.add_zero, ← Nat.add_assoc, Nat.pow_succ, ← Nat.div_div_eq_div_mul]
theorem lc_end {D : Dec} {k Δ : Nat} (h2 : valR D.d 0 D.nd * 2 ^ k < 10 ^ (D.nd + Δ)) : lc D k (D.nd + Δ) = 0 := by
  rw [lc_ext, Nat.div_eq_of_lt h2]
theorem lc_pos {D : Dec} {k Δ : Nat} (h1 : 10 ^ (D.nd + Δ) ≤ valR D.d 0 D.nd * 2 ^ k * 10) (e : Nat) (he : e < Δ) : 1 ≤ lc D k (D.nd + e) := by
  rw [lc_ext]
  refine Nat.div_pos ?_ (Nat.pow_pos (by decide))
  have h3 : 10 ^ (D.nd + e) * 10 ≤ 10 ^ (D.nd + Δ) := by rw [← Nat.pow_succ]; exact Nat.pow_le_pow_right (by decide) (by omega)
  omega
/-- the first figure. -/
theorem lo_first {D : Dec} {k Δ : Nat} (hf : Fit D) (h1 : 10 ^ (D.nd + Δ) ≤ valR D.d 0 D.nd * 2 ^ k * 10) (h2 : valR D.d 0 D.nd * 2 ^ k < 10 ^ (D.nd + Δ)) :
    1 ≤ lo D k (D.nd + Δ - 1) ∧ (Δ = 0 → (D.d 0 - 48) * 2 ^ k ≤ lo D k (D.nd + Δ - 1)) := by
  have hn := hf.n1
  have h0 := hf.d0
  have he := lc_end h2
  obtain ⟨M, hM⟩ : ∃ M, D.nd + Δ = M + 1 := ⟨D.nd + Δ - 1, by omega⟩
  rw [hM] at he
  have he' : (lc D k M + xs D M * 2 ^ k) / 10 = 0 := he
  have hlo : lo D k (D.nd + Δ - 1) = lc D k M + xs D M * 2 ^ k := by
    rw [hM, Nat.add_sub_cancel]
    show (lc D k M + xs D M * 2 ^ k) % 10 = _
    omega
  have hP : 0 < 2 ^ k := Nat.pow_pos (by decide)
  rw [hlo]
  rcases Nat.eq_zero_or_pos Δ with hz | hp
  · subst hz
    have hx : xs D M = D.d 0 - 48 := by unfold xs; rw [if_pos (by omega), show D.nd - 1 - M = 0 from by omega]
    rw [hx]
    have : 1 * 2 ^ k ≤ (D.d 0 - 48) * 2 ^ k := Nat.mul_le_mul_right _ (by omega)
    exact ⟨by omega, fun _ => Nat.le_add_left _ _⟩
  · have := lc_pos h1 (Δ - 1) (by omega)
    rw [show D.nd + (Δ - 1) = M from by omega] at this
    exact ⟨by omega, fun h => by omega⟩
end Go.Proofs.YtlmogijkkhdogaaGreatDoor
