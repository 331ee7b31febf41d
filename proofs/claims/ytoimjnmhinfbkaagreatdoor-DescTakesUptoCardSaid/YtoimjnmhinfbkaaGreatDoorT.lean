import Derived.Test.YtoimjnmhinfbkaaGreatDoorP
import Derived.Test.YtoimjnmhinfbkaaGreatDoorK
namespace Go.Proofs.YtoimjnmhinfbkaaGreatDoor
open Go.RowKit
set_option maxRecDepth 100000

theorem puM_append (M : Nat) (r : List UInt8) : ∀ (l : List UInt8) (acc v : Nat), Lib.parseUintM M acc l = .ok v → Lib.parseUintM M acc (l ++ r) = Lib.parseUintM M v r := by
  intro l
  induction l with
  | nil => intro acc v h; simp only [Lib.parseUintM] at h; cases h; rfl
  | cons c l ih =>
    intro acc v h
    simp only [List.cons_append, Lib.parseUintM] at h ⊢
    by_cases h1 : 48 ≤ c.toNat ∧ c.toNat ≤ 57
    · by_cases h2 : 1844674407370955162 ≤ acc
      · rw [if_pos h1, if_pos h2] at h; cases h
      · by_cases h3 : M < acc * 10 + (c.toNat - 48)
        · rw [if_pos h1, if_neg h2, if_pos h3] at h; cases h
        · rw [if_pos h1, if_neg h2, if_neg h3] at h ⊢
          exact ih _ _ h
    · rw [if_neg h1] at h; cases h

theorem dig_toNat (q : Nat) (h : q ≤ 9) : (48 + UInt8.ofNat q).toNat = 48 + q := by
  rw [← u8_48]; simp; omega

theorem dec_dig : ∀ (q : Nat), (∀ c ∈ Lib.decDigits q, dig c = true) ∧ Lib.decDigits q ≠ [] ∧ (0 < q → (Lib.decDigits q).head? ≠ some 48) := by
  intro q
  induction q using Nat.strongRecOn with
  | ind q ih =>
    have hd : ∀ r, r ≤ 9 → dig (48 + UInt8.ofNat r) = true := fun r hr => (dig_iff _).2 (by rw [dig_toNat r hr]; omega)
    by_cases h : 9 < q
    · obtain ⟨a, b, c⟩ := ih (q / 10) (by omega)
      rw [dec_step q h]
      refine ⟨?_, by simp, fun _ => ?_⟩
      · intro x hx
        rcases List.mem_append.1 hx with hx | hx
        · exact a x hx
        · rw [List.mem_singleton.1 hx]; exact hd _ (by omega)
      · cases hl : Lib.decDigits (q / 10) with
        | nil => exact absurd hl b
        | cons y ys => have := c (by omega); rw [hl] at this; simpa using this
    · rw [dec_last q (by omega)]
      refine ⟨fun x hx => by rw [List.mem_singleton.1 hx]; exact hd q (by omega), by simp, fun h0 => ?_⟩
      intro he
      have he2 : 48 + UInt8.ofNat q = 48 := by simpa using he
      have := congrArg UInt8.toNat he2
      rw [dig_toNat q (by omega)] at this
      have h48 : (48 : UInt8).toNat = 48 := rfl
      omega

theorem pu_dec (M : Nat) (hM : M ≤ 18446744073709551615) : ∀ (q : Nat), q ≤ M → Lib.parseUintM M 0 (Lib.decDigits q) = .ok q := by
  intro q
  induction q using Nat.strongRecOn with
  | ind q ih =>
    intro hq
    by_cases h : 9 < q
    · rw [dec_step q h, puM_append M _ _ 0 (q / 10) (ih (q / 10) (by omega) (by omega))]
      simp only [Lib.parseUintM]
      rw [dig_toNat (q % 10) (by omega), if_pos (by omega), if_neg (by omega), if_neg (by omega)]
      congr 1; omega
    · rw [dec_last q (by omega)]
      simp only [Lib.parseUintM]
      rw [dig_toNat q (by omega), if_pos (by omega), if_neg (by omega), if_neg (by omega)]
      congr 1; omega

theorem all_dig : ∀ (l : List UInt8), (∀ c ∈ l, dig c = true) → digs l = l ∧ rest l = [] := by
  intro l
  induction l with
  | nil => intro _; exact ⟨rfl, rfl⟩
  | cons c l ih =>
    intro h
    have h1 := h c (by simp)
    have h2 := ih fun x hx => h x (by simp [hx])
    simp only [digs, rest] at h2 ⊢
    rw [List.takeWhile_cons, List.dropWhile_cons, h1, h2.1, h2.2]; simp

theorem digs_dec (q : Nat) : digs (Lib.decDigits q) = Lib.decDigits q ∧ rest (Lib.decDigits q) = [] := all_dig _ (dec_dig q).1

theorem dec_not45 (q : Nat) : (Lib.decDigits q).head? ≠ some 45 := by
  obtain ⟨a, b, -⟩ := dec_dig q
  cases hl : Lib.decDigits q with
  | nil => exact absurd hl b
  | cons y ys =>
    intro he
    have he2 : y = 45 := by simpa using he
    have := a y (by rw [hl]; simp)
    rw [he2] at this
    exact absurd this (by decide)

theorem badB_dec (q : Nat) : badB (Lib.decDigits q) = false := by
  obtain ⟨-, b, c⟩ := dec_dig q
  unfold badB
  by_cases h : 0 < q
  · have := c h
    simp [b]
    intro h2; exact absurd h2 (by simpa using this)
  · obtain rfl : q = 0 := by omega
    rw [dec_last 0 (by omega)]; rfl

theorem trim_dec (q : Nat) (h : 0 < q) : Lib.trimLeftB (Lib.decDigits q) 48 = Lib.decDigits q := by
  obtain ⟨-, b, c⟩ := dec_dig q
  have := c h
  cases hl : Lib.decDigits q with
  | nil => exact absurd hl b
  | cons y ys =>
    rw [hl] at this
    have h2 : ¬ y = 48 := by simpa using this
    simp [Lib.trimLeftB, List.dropWhile_cons, h2]

theorem whole_dec (b : Bool) (q : Nat) : wholeL ⟨b, Lib.decDigits q, [], []⟩ = some (Lib.decDigits q) := by
  have e1 : (Parts.mk b (Lib.decDigits q) [] []).all = Lib.decDigits q := by simp [Parts.all]
  have e2 : (Parts.mk b (Lib.decDigits q) [] []).point = (Lib.decDigits q).length := by simp [Parts.point, expo]
  have e3 : (Parts.mk b (Lib.decDigits q) [] []).cut = (Lib.decDigits q).length := by rw [Parts.cut, e1, e2]; omega
  rw [wholeL, e1, e2, e3, List.drop_length, List.take_length, if_pos (by rfl)]
  by_cases h : 0 < q
  · rw [trim_dec q h, if_neg (dec_dig q).2.1]
    simp [Lib.repeatL]
  · obtain rfl : q = 0 := by omega
    rw [dec_last 0 (by omega)]; rfl

theorem parseTail_dec (b : Bool) (q : Nat) : parseTail b (Lib.decDigits q) = some ⟨b, Lib.decDigits q, [], []⟩ := by
  rw [parseTail, (digs_dec q).1, (digs_dec q).2, badB_dec q, if_neg (by decide), parseDot_no (by rfl)]; rfl

theorem whole_itoa (n : Int) (h1 : -9223372036854775808 ≤ n) (h2 : n ≤ 9223372036854775807) : wholeN (Lib.itoa n) = .ok n := by
  have hlen := decDigits_length 18
  by_cases hn : n < 0
  · have hi : Lib.itoa n = 45 :: Lib.decDigits n.natAbs := by rw [Lib.itoa, if_pos hn]
    have hl := hlen n.natAbs (by omega)
    have hpi : Lib.parseIntB 64 (45 :: Lib.decDigits n.natAbs) = .ok n := by
      have hp := pu_dec (2 ^ 64 - 1) (by omega) n.natAbs (by omega)
      simp only [Lib.parseIntB]
      rw [if_pos (.inr rfl), Lib.parseUintB, if_neg (dec_dig _).2.1, hp]
      simp only
      rw [if_neg (by simp), if_neg (by omega)]
      simp; omega
    rw [hi, wholeN, if_neg (by simp; omega), parseL, if_neg (by simp; omega)]
    simp only [neg, unsign, List.head?_cons, BEq.rfl, if_true, List.tail_cons]
    rw [parseTail_dec]
    simp only
    rw [whole_dec]
    simp only [if_true]
    rw [if_neg (by omega), hpi]
  · have hi : Lib.itoa n = Lib.decDigits n.toNat := by rw [Lib.itoa, if_neg hn]
    have hl := hlen n.toNat (by omega)
    have hneg : neg (Lib.decDigits n.toNat) = false := by
      have := dec_not45 n.toNat
      simpa [neg] using this
    have hpi : Lib.parseIntB 64 (Lib.decDigits n.toNat) = .ok n := by
      have hp := pu_dec (2 ^ 64 - 1) (by omega) n.toNat (by omega)
      have hd := (dec_dig n.toNat).1
      have hne := (dec_dig n.toNat).2.1
      cases hq : Lib.decDigits n.toNat with
      | nil => exact absurd hq hne
      | cons c r =>
        have hc := (dig_iff c).1 (hd c (by rw [hq]; simp))
        rw [hq] at hp
        simp only [Lib.parseIntB]
        rw [if_neg (by omega), Lib.parseUintB, if_neg (by simp), hp]
        simp only
        rw [if_neg (by omega), if_neg (by omega), if_neg (by omega)]
        congr 1; omega
    rw [hi, wholeN, if_neg (by omega), parseL, if_neg (by omega), unsign, hneg]
    simp only [Bool.false_eq_true, if_false]
    rw [parseTail_dec]
    simp only
    rw [whole_dec]
    simp only [Bool.false_eq_true, if_false]
    rw [if_neg (by omega), hpi]

end Go.Proofs.YtoimjnmhinfbkaaGreatDoor
