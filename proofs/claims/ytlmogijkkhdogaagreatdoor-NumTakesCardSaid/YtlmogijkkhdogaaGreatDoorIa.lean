import Derived.Test.YtlmogijkkhdogaaGreatDoorHy
namespace Go.Proofs.YtlmogijkkhdogaaGreatDoor
open Go.RowKit
set_option maxRecDepth 100000

/-- what digits spell, behind what was spelt before. -/
def dvalFrom (acc : Nat) (l : List UInt8) : Nat := l.foldl (fun a c => a * 10 + (c.toNat - 48)) acc
def dval (l : List UInt8) : Nat := dvalFrom 0 l

theorem dvalFrom_cons (acc : Nat) (c : UInt8) (l : List UInt8) : dvalFrom acc (c :: l) = dvalFrom (acc * 10 + (c.toNat - 48)) l := by
  unfold dvalFrom
  rw [List.foldl_cons]
theorem dvalFrom_append (acc : Nat) (l r : List UInt8) : dvalFrom acc (l ++ r) = dvalFrom (dvalFrom acc l) r := by
  unfold dvalFrom
  rw [List.foldl_append]

theorem dvalFrom_eq (l : List UInt8) : ∀ acc, dvalFrom acc l = acc * 10 ^ l.length + dval l := by
  induction l with
  | nil => intro acc; simp [dvalFrom, dval]
  | cons c l ih =>
    intro acc
    have h2 : dval (c :: l) = (c.toNat - 48) * 10 ^ l.length + dval l := by
      rw [dval, dvalFrom_cons, ih, Nat.zero_mul, Nat.zero_add]
    rw [dvalFrom_cons, ih, h2, List.length_cons, Nat.pow_succ, Nat.add_mul, Nat.mul_assoc, Nat.mul_comm 10, Nat.add_assoc]

theorem dvalFrom_ge (l : List UInt8) (acc : Nat) : acc ≤ dvalFrom acc l := by
  rw [dvalFrom_eq]
  have : 1 ≤ 10 ^ l.length := Nat.pos_of_ne_zero (by simp)
  calc acc = acc * 1 := (Nat.mul_one _).symm
    _ ≤ acc * 10 ^ l.length := Nat.mul_le_mul_left _ this
    _ ≤ _ := Nat.le_add_right _ _

theorem puM_val (M : Nat) (hM : M ≤ 18446744073709551615) : ∀ (l : List UInt8) (acc : Nat), (∀ c ∈ l, dig c = true) → acc ≤ M →
    Lib.parseUintM M acc l = if dvalFrom acc l ≤ M then .ok (dvalFrom acc l) else .range := by
  intro l
  induction l with
  | nil => intro acc _ h; rw [show dvalFrom acc [] = acc from rfl, if_pos h]; rfl
  | cons c l ih =>
    intro acc hd h
    have hc := (dig_iff c).1 (hd c (by simp))
    simp only [Lib.parseUintM]
    rw [if_pos (by omega)]
    have hge := dvalFrom_ge l (acc * 10 + (c.toNat - 48))
    rw [dvalFrom_cons]
    by_cases h1 : 1844674407370955162 ≤ acc
    · rw [if_pos h1, if_neg (by omega)]
    · rw [if_neg h1]
      by_cases h2 : M < acc * 10 + (c.toNat - 48)
      · rw [if_pos h2, if_neg (by omega)]
      · rw [if_neg h2]
        exact ih _ (fun x hx => hd x (by simp [hx])) (by omega)

/-- digits with a sign ahead or none: the number, or out of range. -/
theorem parseInt_val (b : Bool) (f : List UInt8) (hf : f ≠ []) (hd : ∀ c ∈ f, dig c = true) :
    Lib.parseIntB 64 (if b = true then 45 :: f else f) =
      if b = true then (if dval f ≤ 9223372036854775808 then .ok (-(dval f : Int)) else .range) else (if dval f ≤ 9223372036854775807 then .ok (dval f : Int) else .range) := by
  have hu : Lib.parseUintB 64 f = if dval f ≤ 18446744073709551615 then .ok (dval f) else .range := by
    rw [Lib.parseUintB, if_neg hf]
    exact puM_val (2 ^ 64 - 1) (by omega) f 0 hd (by omega)
  cases b with
  | true =>
    simp only [if_true]
    simp only [Lib.parseIntB]
    rw [if_pos (.inr rfl), hu]
    by_cases h1 : dval f ≤ 18446744073709551615
    · rw [if_pos h1]
      simp only
      by_cases h2 : dval f ≤ 9223372036854775808
      · rw [if_neg (by simp), if_neg (by simp; omega), if_pos h2]
        simp
      · rw [if_neg (by simp), if_pos (by simp; omega), if_neg h2]
    · rw [if_neg h1, if_neg (by omega)]
  | false =>
    simp only [Bool.false_eq_true, if_false]
    cases f with
    | nil => exact absurd rfl hf
    | cons c r =>
      have hc := (dig_iff c).1 (hd c (by simp))
      simp only [Lib.parseIntB]
      rw [if_neg (by omega), hu]
      by_cases h1 : dval (c :: r) ≤ 18446744073709551615
      · rw [if_pos h1]
        simp only
        by_cases h2 : dval (c :: r) ≤ 9223372036854775807
        · rw [if_neg (by omega), if_neg (by omega), if_neg (by omega), if_pos h2]
        · rw [if_pos (by omega), if_neg h2]
      · rw [if_neg h1, if_neg (by omega)]

end Go.Proofs.YtlmogijkkhdogaaGreatDoor

namespace Go.Proofs.YtlmogijkkhdogaaGreatDoor
open Go.RowKit
set_option maxRecDepth 100000

/-- is there a digit at this place. -/
def digAt (l : List UInt8) (i : Nat) : Bool := match l[i]? with
  | some c => dig c
  | none => false

theorem digit_any (l : List UInt8) (i : Nat) (w : World) (hl : l.length ≤ 1073741824) (hi : i ≤ 1073741824) :
    Calls Tryz.prog 65 #[.string ⟨l.toArray⟩, .int .i64 i] w fun e w' => e = .returned (.bool (digAt l i)) ∧ w' = w := by
  have hi0 : (0 : Int) ≤ (i : Int) := Int.natCast_nonneg _
  by_cases hlt : i < l.length
  · have h1 : (i : Int) < (l.length : Int) := by omega
    have hsz : i < (⟨l.toArray⟩ : ByteArray).size := hlt
    have hda : digAt l i = dig l[i] := by simp [digAt, hlt]
    have HD := Lib.hid hda
    clear hda
    by_cases ha : 48 ≤ (((⟨l.toArray⟩ : ByteArray)[i]'hsz).toNat : Int)
    · by_cases hb : (((⟨l.toArray⟩ : ByteArray)[i]'hsz).toNat : Int) ≤ 57
      · have hk := Lib.hid ((dig_iff l[i]).2 ⟨ha, hb⟩)
        go_enter Tryz.func65, Tryz.ntmps65
        go_wp2
        go_ret
        refine ⟨?_, rfl⟩
        rw [HD.out, hk.out]; rfl
      · have hk : dig l[i] = false := by
          have := mt (dig_iff l[i]).1 (fun h => hb h.2)
          simpa using this
        have HK := Lib.hid hk
        clear hk
        go_enter Tryz.func65, Tryz.ntmps65
        go_wp2
        go_ret
        refine ⟨?_, rfl⟩
        rw [HD.out, HK.out]; rfl
    · have hk : dig l[i] = false := by
        have := mt (dig_iff l[i]).1 (fun h => ha h.1)
        simpa using this
      have HK := Lib.hid hk
      clear hk
      go_enter Tryz.func65, Tryz.ntmps65
      go_wp2
      go_ret
      refine ⟨?_, rfl⟩
      rw [HD.out, HK.out]; rfl
  · have h1 : ¬ (i : Int) < (l.length : Int) := by omega
    have hda : digAt l i = false := by simp [digAt, hlt]
    have HD := Lib.hid hda
    clear hda
    go_enter Tryz.func65, Tryz.ntmps65
    go_wp2
    go_ret
    refine ⟨?_, rfl⟩
    rw [HD.out]; rfl

end Go.Proofs.YtlmogijkkhdogaaGreatDoor

namespace Go.Proofs.YtlmogijkkhdogaaGreatDoor
open Go.RowKit
set_option maxRecDepth 100000

/-- digits, each step capped at 1000. -/
def capFrom (acc : Nat) (l : List UInt8) : Nat := l.foldl (fun a c => min (a * 10 + (c.toNat - 48)) 1000) acc

theorem capFrom_cons (acc : Nat) (c : UInt8) (l : List UInt8) : capFrom acc (c :: l) = capFrom (min (acc * 10 + (c.toNat - 48)) 1000) l := by
  unfold capFrom
  rw [List.foldl_cons]

theorem capFrom_append (acc : Nat) (l r : List UInt8) : capFrom acc (l ++ r) = capFrom (capFrom acc l) r := by
  unfold capFrom
  rw [List.foldl_append]

theorem capFrom_eq : ∀ (l : List UInt8) (acc : Nat), capFrom (min acc 1000) l = min (dvalFrom acc l) 1000 := by
  intro l
  induction l with
  | nil => intro acc; rfl
  | cons c l ih =>
    intro acc
    rw [capFrom_cons, dvalFrom_cons, ← ih (acc * 10 + (c.toNat - 48))]
    congr 1
    omega

theorem cap_eq (l : List UInt8) : capFrom 0 l = min (dval l) 1000 := by
  have := capFrom_eq l 0
  rwa [show min 0 1000 = 0 from rfl] at this

/-- all figures are zeros: what they spell is 0. -/
theorem dval_zeros (l : List UInt8) (h : ∀ c ∈ l, c = 48) : dval l = 0 := by
  induction l with
  | nil => rfl
  | cons c l ih =>
    have h0 : c = 48 := h c (by simp)
    subst h0
    rw [dval, dvalFrom_cons, dvalFrom_eq, ih fun x hx => h x (by simp [hx])]
    simp

/-- a figure that is no zero: what they spell is at least 1. -/
theorem dval_pos (l : List UInt8) (hd : ∀ c ∈ l, dig c = true) (h : ∃ c ∈ l, c ≠ 48) : 1 ≤ dval l := by
  induction l with
  | nil => obtain ⟨c, hc, _⟩ := h; cases hc
  | cons c l ih =>
    rw [dval, dvalFrom_cons, dvalFrom_eq]
    by_cases hc : c = 48
    · subst hc
      obtain ⟨x, hx, hne⟩ := h
      have hx2 : x ∈ l := by
        rcases List.mem_cons.1 hx with rfl | hx
        · exact absurd rfl hne
        · exact hx
      have := ih (fun y hy => hd y (by simp [hy])) ⟨x, hx2, hne⟩
      omega
    · have h1 := (dig_iff c).1 (hd c (by simp))
      have h2 : c.toNat ≠ 48 := fun e => hc (UInt8.toNat_inj.1 (by rw [e]; rfl))
      have h3 : 1 ≤ 10 ^ l.length := Nat.pos_of_ne_zero (by simp)
      have h4 : 1 ≤ c.toNat - 48 := by omega
      have h5 : 1 * 1 ≤ (0 * 10 + (c.toNat - 48)) * 10 ^ l.length := Nat.mul_le_mul (by omega) h3
      omega

end Go.Proofs.YtlmogijkkhdogaaGreatDoor

namespace Go.Proofs.YtlmogijkkhdogaaGreatDoor
open Go.RowKit
set_option maxRecDepth 100000

theorem dval_cons (c : UInt8) (l : List UInt8) : dval (c :: l) = (c.toNat - 48) * 10 ^ l.length + dval l := by
  rw [dval, dvalFrom_cons, dvalFrom_eq, Nat.zero_mul, Nat.zero_add]

theorem dval_append (l r : List UInt8) : dval (l ++ r) = dval l * 10 ^ r.length + dval r := by
  rw [dval, dvalFrom_append, dvalFrom_eq]; rfl

/-- zeros ahead say nothing. -/
theorem dval_trim (l : List UInt8) : dval (Lib.trimLeftB l 48) = dval l := by
  induction l with
  | nil => rfl
  | cons c l ih =>
    by_cases hc : c = 48
    · subst hc
      have h1 : Lib.trimLeftB (48 :: l) 48 = Lib.trimLeftB l 48 := by simp [Lib.trimLeftB]
      rw [h1, ih, dval_cons]
      simp
    · have h1 : Lib.trimLeftB (c :: l) 48 = c :: l := by simp [Lib.trimLeftB, List.dropWhile_cons, hc]
      rw [h1]

theorem repeat_zeros (k : Nat) : (∀ c ∈ Lib.repeatL [48] k, c = 48) ∧ (Lib.repeatL [48] k).length = k := by
  refine ⟨?_, by rw [Lib.repeatL_length]; simp⟩
  induction k with
  | zero => intro c hc; cases hc
  | succ k ih =>
    intro c hc
    rcases List.mem_append.1 (show c ∈ [48] ++ Lib.repeatL [48] k from hc) with h | h
    · exact List.mem_singleton.1 h
    · exact ih c h

/-- zeros behind: a power of ten. -/
theorem dval_repeat (l : List UInt8) (k : Nat) : dval (l ++ Lib.repeatL [48] k) = dval l * 10 ^ k := by
  obtain ⟨h1, h2⟩ := repeat_zeros k
  rw [dval_append, h2, dval_zeros _ h1, Nat.add_zero]

/-- a first figure that is no zero: as many figures, so great. -/
theorem dval_first (c : UInt8) (l : List UInt8) (hd : dig c = true) (hc : c ≠ 48) : 10 ^ l.length ≤ dval (c :: l) := by
  have h1 := (dig_iff c).1 hd
  have h2 : c.toNat ≠ 48 := fun e => hc (UInt8.toNat_inj.1 (by rw [e]; rfl))
  rw [dval_cons]
  have h4 : 1 ≤ c.toNat - 48 := by omega
  calc 10 ^ l.length = 1 * 10 ^ l.length := (Nat.one_mul _).symm
    _ ≤ (c.toNat - 48) * 10 ^ l.length := Nat.mul_le_mul_right _ h4
    _ ≤ _ := Nat.le_add_right _ _

/-- what is left of figures when the zeros ahead are cut: nothing, or no zero ahead. -/
theorem trim_head (l : List UInt8) : Lib.trimLeftB l 48 = [] ∨ ∃ c r, Lib.trimLeftB l 48 = c :: r ∧ c ≠ 48 := by
  induction l with
  | nil => exact .inl rfl
  | cons c l ih =>
    by_cases hc : c = 48
    · subst hc
      have h1 : Lib.trimLeftB (48 :: l) 48 = Lib.trimLeftB l 48 := by simp [Lib.trimLeftB]
      rw [h1]; exact ih
    · exact .inr ⟨c, l, by simp [Lib.trimLeftB, List.dropWhile_cons, hc], hc⟩

/-- how the figures' length bounds the number from below. -/
theorem dval_long (l : List UInt8) (k n : Nat) (hd : ∀ c ∈ l, dig c = true) (h0 : Lib.trimLeftB l 48 ≠ []) (h : n < (Lib.trimLeftB l 48 ++ Lib.repeatL [48] k).length) :
    10 ^ n ≤ dval l * 10 ^ k := by
  rw [← dval_trim l, ← dval_repeat]
  rcases trim_head l with h1 | ⟨c, r, h1, hc⟩
  · exact absurd h1 h0
  · have hdc : dig c = true := hd c (by
      have : c ∈ Lib.trimLeftB l 48 := by rw [h1]; simp
      exact (List.dropWhile_sublist _).subset this)
    rw [h1] at h ⊢
    rw [List.cons_append] at h ⊢
    refine Nat.le_trans (Nat.pow_le_pow_right (by omega) ?_) (dval_first c _ hdc hc)
    simp only [List.length_cons] at h
    omega

end Go.Proofs.YtlmogijkkhdogaaGreatDoor

namespace Go.Proofs.YtlmogijkkhdogaaGreatDoor
open Go.RowKit
set_option maxRecDepth 100000

theorem trimLeft_nil (l : List UInt8) : Lib.trimLeftB l 48 = [] ↔ ∀ c ∈ l, c = 48 := by
  induction l with
  | nil => simp [Lib.trimLeftB]
  | cons c l ih =>
    by_cases hc : c = 48
    · subst hc
      have h1 : Lib.trimLeftB (48 :: l) 48 = Lib.trimLeftB l 48 := by simp [Lib.trimLeftB]
      rw [h1, ih]; simp
    · have h1 : Lib.trimLeftB (c :: l) 48 = c :: l := by simp [Lib.trimLeftB, List.dropWhile_cons, hc]
      rw [h1]
      constructor
      · intro h; cases h
      · intro h; exact absurd (h c (by simp)) hc

theorem trim_nil (l : List UInt8) : Lib.trimB l 48 = [] ↔ ∀ c ∈ l, c = 48 := by
  have hr : Lib.trimRightB l 48 = (Lib.trimLeftB l.reverse 48).reverse := rfl
  rw [Lib.trimB, trimLeft_nil, hr]
  rcases trim_head l.reverse with h | ⟨c, r, h, hc⟩
  · have h2 := (trimLeft_nil l.reverse).1 h
    rw [h]
    constructor
    · intro _ c hc; exact h2 c (by simpa using hc)
    · intro _ c hc; cases hc
  · rw [h]
    constructor
    · intro h2; exact absurd (h2 c (by simp)) hc
    · intro h2
      have h3 := (trimLeft_nil l.reverse).2 (fun x hx => h2 x (by simpa using hx))
      rw [h] at h3; cases h3

/-- a number within an int's bounds, or out of range. -/
def signed (b : Bool) (N : Nat) : Except Int Int :=
  if b = true then (if N ≤ 9223372036854775808 then .ok (-(N : Int)) else .error 1) else (if N ≤ 9223372036854775807 then .ok (N : Int) else .error 1)

/-- num.Whole by what the figures spell. -/
theorem wholeN_val (l : List UInt8) (p : Parts) (h64 : ¬ 64 < l.length) (hp : parseL l = some p) (hd : ∀ c ∈ p.all, dig c = true) :
    wholeN l = if (∀ c ∈ p.all.drop p.cut, c = 48) then signed p.below (dval (p.all.take p.cut) * 10 ^ (p.point - p.cut).toNat) else .error 11 := by
  rw [wholeN, if_neg h64, hp]
  simp only
  by_cases hz : ∀ c ∈ p.all.drop p.cut, c = 48
  · rw [if_pos hz, wholeL, if_pos ((trim_nil _).2 hz)]
    have hdt : ∀ c ∈ p.all.take p.cut, dig c = true := fun c hc => hd c (List.mem_of_mem_take hc)
    by_cases hk : Lib.trimLeftB (p.all.take p.cut) 48 = []
    · rw [if_pos hk]
      have h0 : dval (p.all.take p.cut) = 0 := by rw [← dval_trim, hk]; rfl
      rw [h0, Nat.zero_mul]
      simp only
      rw [if_neg (by simp), parseInt_val p.below [48] (by simp) (by intro c hc; rw [List.mem_singleton.1 hc]; rfl)]
      have h1 : dval [48] = 0 := rfl
      rw [h1]
      cases p.below <;> rfl
    · rw [if_neg hk]
      simp only
      generalize hf : Lib.trimLeftB (p.all.take p.cut) 48 ++ Lib.repeatL [48] (p.point - p.cut).toNat = f
      have hv : dval f = dval (p.all.take p.cut) * 10 ^ (p.point - p.cut).toNat := by rw [← hf, dval_repeat, dval_trim]
      have hfd : ∀ c ∈ f, dig c = true := by
        intro c hc
        rw [← hf] at hc
        rcases List.mem_append.1 hc with h | h
        · exact hdt c ((List.dropWhile_sublist _).subset h)
        · rw [(repeat_zeros _).1 c h]; rfl
      have hfn : f ≠ [] := by
        intro h; rw [h] at hf
        exact hk (List.append_eq_nil_iff.1 hf).1
      by_cases h20 : 20 < f.length
      · have hlong := dval_long (p.all.take p.cut) (p.point - p.cut).toNat 20 hdt hk (by rw [hf]; exact h20)
        rw [if_pos h20, signed]
        cases p.below
        · rw [if_neg (by decide), if_neg (by omega)]
        · rw [if_pos rfl, if_neg (by omega)]
      · rw [if_neg h20, parseInt_val p.below f hfn hfd, signed, hv]
        generalize dval (p.all.take p.cut) * 10 ^ (p.point - p.cut).toNat = N
        cases p.below
        · simp only [Bool.false_eq_true, if_false]
          by_cases hN : N ≤ 9223372036854775807
          · rw [if_pos hN, if_pos hN]
          · rw [if_neg hN, if_neg hN]
        · simp only [if_true]
          by_cases hN : N ≤ 9223372036854775808
          · rw [if_pos hN, if_pos hN]
          · rw [if_neg hN, if_neg hN]
  · rw [if_neg hz, wholeL, if_neg (fun h => hz ((trim_nil _).1 h))]

end Go.Proofs.YtlmogijkkhdogaaGreatDoor

namespace Go.Proofs.YtlmogijkkhdogaaGreatDoor
open Go.RowKit
set_option maxRecDepth 100000

theorem mag_val (f : List UInt8) (hf : f ≠ []) (hd : ∀ c ∈ f, dig c = true) : Lib.parseMag f = if dval f ≤ 18446744073709551615 then .ok (dval f) else .range := by
  have hM : ∀ (l : List UInt8) (acc : Nat), Lib.parseUint10 acc l = Lib.parseUintM 18446744073709551615 acc l := by
    intro l
    induction l with
    | nil => intro acc; rfl
    | cons c l ih => intro acc; simp only [Lib.parseUint10, Lib.parseUintM, ih]; (repeat split) <;> first | rfl | omega
  rw [Lib.parseMag, if_neg hf, hM]
  exact puM_val _ (by omega) f 0 hd (by omega)

theorem expo_plain (ds : List UInt8) (hne : ds ≠ []) (hd : ∀ c ∈ ds, dig c = true) : expo ds = (min (dval ds) 128 : Nat) := by
  cases hds : ds with
  | nil => exact absurd hds hne
  | cons c r =>
    have hc := (dig_iff c).1 (hd c (by rw [hds]; simp))
    rw [← hds]
    have hmag := mag_val ds hne hd
    have hh : (ds.head? == some 45) = false := by
      rw [hds]; simp; intro h; rw [h] at hc; exact absurd hc.1 (by decide)
    rw [expo, if_neg hne, hds, Lib.atoiAll_plain c r (by omega) (by omega), ← hds, hmag, hh]
    by_cases h1 : dval ds ≤ 18446744073709551615
    · rw [if_pos h1]
      by_cases h2 : 9223372036854775808 ≤ dval ds
      · simp only [Lib.signless, h2]; simp; omega
      · simp only [Lib.signless, h2]; simp; split <;> omega
    · rw [if_neg h1]; simp [Lib.signless]; omega

theorem expo_plus (ds : List UInt8) (hne : ds ≠ []) (hd : ∀ c ∈ ds, dig c = true) : expo (43 :: ds) = (min (dval ds) 128 : Nat) := by
  have hmag := mag_val ds hne hd
  have hh : ((43 :: ds : List UInt8).head? == some 45) = false := rfl
  rw [expo, if_neg (by simp), Lib.atoiAll_plus, hmag, hh]
  by_cases h1 : dval ds ≤ 18446744073709551615
  · rw [if_pos h1]
    by_cases h2 : 9223372036854775808 ≤ dval ds
    · simp only [Lib.signless, h2]; simp; omega
    · simp only [Lib.signless, h2]; simp; split <;> omega
  · rw [if_neg h1]; simp [Lib.signless]; omega

theorem expo_minus (ds : List UInt8) (hne : ds ≠ []) (hd : ∀ c ∈ ds, dig c = true) : expo (45 :: ds) = -((min (dval ds) 128 : Nat) : Int) := by
  have hmag := mag_val ds hne hd
  have hh : ((45 :: ds : List UInt8).head? == some 45) = true := rfl
  rw [expo, if_neg (by simp), Lib.atoiAll_minus, hmag, hh]
  by_cases h1 : dval ds ≤ 18446744073709551615
  · rw [if_pos h1]
    by_cases h2 : 9223372036854775808 < dval ds
    · simp only [Lib.signed, h2]; simp; omega
    · simp only [Lib.signed, h2]; simp; split <;> omega
  · rw [if_neg h1]; simp [Lib.signed]; omega

end Go.Proofs.YtlmogijkkhdogaaGreatDoor

namespace Go.Proofs.YtlmogijkkhdogaaGreatDoor
open Go.RowKit
set_option maxRecDepth 100000

/-- a whole number's answer with an exponent E ahead of which the point stands. -/
def wholeAt (b : Bool) (all : List UInt8) (E : Int) : Except Int Int :=
  if (∀ c ∈ all.drop (min (max E 0) all.length).toNat, c = 48) then signed b (dval (all.take (min (max E 0) all.length).toNat) * 10 ^ (E - (min (max E 0) all.length).toNat).toNat) else .error 11

theorem signed_big (b : Bool) (N : Nat) (h : 9223372036854775808 < N) : signed b N = .error 1 := by
  unfold signed
  cases b
  · rw [if_neg (by decide), if_neg (by omega)]
  · rw [if_pos rfl, if_neg (by omega)]

/-- beyond 128 places the exponent's size does not matter: there are at most 64 figures. -/
theorem wholeAt_clamp (b : Bool) (all : List UInt8) (n : Nat) (e1 e2 : Int) (hl : all.length ≤ 64) (hn : n ≤ all.length) (h : e1 = e2 ∨ (e1 = 128 ∧ 128 ≤ e2) ∨ (e1 = -128 ∧ e2 ≤ -128)) :
    wholeAt b all (n + e1) = wholeAt b all (n + e2) := by
  rcases h with rfl | ⟨rfl, h⟩ | ⟨rfl, h⟩
  · rfl
  · have c1 : (min (max ((n : Int) + 128) 0) all.length).toNat = all.length := by omega
    have c2 : (min (max ((n : Int) + e2) 0) all.length).toNat = all.length := by omega
    unfold wholeAt
    rw [c1, c2, List.drop_length, List.take_length, if_pos (by intro c hc; cases hc), if_pos (by intro c hc; cases hc)]
    by_cases h0 : dval all = 0
    · rw [h0, Nat.zero_mul, Nat.zero_mul]
    · have big : ∀ k : Nat, 64 ≤ k → 9223372036854775808 < dval all * 10 ^ k := fun k hk => by
        have h1 : 10 ^ 64 ≤ 10 ^ k := Nat.pow_le_pow_right (by omega) hk
        have h2 : 1 * 10 ^ 64 ≤ dval all * 10 ^ k := Nat.mul_le_mul (by omega) h1
        omega
      rw [signed_big b _ (big _ (by omega)), signed_big b _ (big _ (by omega))]
  · have c1 : (min (max ((n : Int) + -128) 0) all.length).toNat = 0 := by omega
    have c2 : (min (max ((n : Int) + e2) 0) all.length).toNat = 0 := by omega
    unfold wholeAt
    rw [c1, c2, List.take_zero, show dval [] = 0 from rfl, Nat.zero_mul, Nat.zero_mul]

theorem wholeN_at (l : List UInt8) (p : Parts) (h64 : ¬ 64 < l.length) (hp : parseL l = some p) (hd : ∀ c ∈ p.all, dig c = true) :
    wholeN l = wholeAt p.below p.all ((p.ahead.length : Nat) + expo p.power) := by
  rw [wholeN_val l p h64 hp hd]; rfl

/-- the exponent as the reference reads it. -/
def powR (sg ds : List UInt8) : Int := if sg = [45] then -(capFrom 0 ds : Int) else (capFrom 0 ds : Int)

theorem expo_cap (sg ds : List UInt8) (hs : sg = [] ∨ sg = [43] ∨ sg = [45]) (hne : ds ≠ []) (hd : ∀ c ∈ ds, dig c = true) :
    expo (sg ++ ds) = powR sg ds ∨ (expo (sg ++ ds) = 128 ∧ 128 ≤ powR sg ds) ∨ (expo (sg ++ ds) = -128 ∧ powR sg ds ≤ -128) := by
  have hc := cap_eq ds
  rcases hs with rfl | rfl | rfl
  · have h := expo_plain ds hne hd
    rw [List.nil_append, h, powR, if_neg (by decide), hc]; omega
  · have h := expo_plus ds hne hd
    rw [show ([43] ++ ds : List UInt8) = 43 :: ds from rfl, h, powR, if_neg (by decide), hc]; omega
  · have h := expo_minus ds hne hd
    rw [show ([45] ++ ds : List UInt8) = 45 :: ds from rfl, h, powR, if_pos rfl, hc]; omega

end Go.Proofs.YtlmogijkkhdogaaGreatDoor

namespace Go.Proofs.YtlmogijkkhdogaaGreatDoor
open Go.RowKit
set_option maxRecDepth 100000

/-- what the figure at place k adds. -/
def term (E : Int) (all : List UInt8) (k : Nat) : Nat := match all[k]? with
  | some c => if c = 48 then 0 else (c.toNat - 48) * 10 ^ (E - 1 - k).toNat
  | none => 0

/-- what the first k figures add up to. -/
def wsum (E : Int) (all : List UInt8) : Nat → Nat
  | 0 => 0
  | k + 1 => wsum E all k + term E all k

theorem wsum_mono (E : Int) (all : List UInt8) (k m : Nat) (h : k ≤ m) : wsum E all k ≤ wsum E all m := by
  induction m with
  | zero => obtain rfl : k = 0 := by omega
            exact Nat.le_refl _
  | succ m ih =>
    by_cases hk : k = m + 1
    · subst hk; exact Nat.le_refl _
    · have := ih (by omega)
      simp only [wsum]; omega

/-- no figure but zeros behind the point. -/
def Wholly (E : Int) (all : List UInt8) : Prop := ∀ i, ∀ hi : i < all.length, E ≤ (i : Int) → all[i] = 48

theorem wsum_at (E : Int) (all : List UInt8) (h : Wholly E all) : ∀ k, k ≤ all.length →
    wsum E all k = dval (all.take (min k (min (max E 0) all.length).toNat)) * 10 ^ (E - (min k (min (max E 0) all.length).toNat : Nat)).toNat := by
  intro k
  induction k with
  | zero => intro _; rw [Nat.zero_min, List.take_zero, show dval [] = 0 from rfl, Nat.zero_mul]; rfl
  | succ k ih =>
    intro hk
    have ih := ih (by omega)
    have hlt : k < all.length := by omega
    simp only [wsum]
    by_cases hc : k < (min (max E 0) all.length).toNat
    · rw [Nat.min_eq_left (by omega)] at ih
      rw [Nat.min_eq_left (by omega), ih]
      have hE : (k : Int) < E := by omega
      have ht : term E all k = (all[k].toNat - 48) * 10 ^ (E - 1 - k).toNat := by
        unfold term
        rw [List.getElem?_eq_getElem hlt]
        simp only
        split
        · rename_i h0; rw [h0]; simp
        · rfl
      have hd : dval (all.take (k + 1)) = dval (all.take k) * 10 + (all[k].toNat - 48) := by
        rw [List.take_add_one, List.getElem?_eq_getElem hlt, Option.toList_some, dval_append]
        simp [dval, dvalFrom]
      have hp : (E - (k : Int)).toNat = (E - 1 - k).toNat + 1 := by omega
      have hp2 : (E - ((k + 1 : Nat) : Int)).toNat = (E - 1 - k).toNat := by omega
      rw [ht, hd, hp, hp2, Nat.pow_succ, Nat.add_mul, Nat.mul_assoc, Nat.mul_comm 10]
    · have h0 := h k hlt (by omega)
      have ht : term E all k = 0 := by
        unfold term
        rw [List.getElem?_eq_getElem hlt]
        simp only
        rw [if_pos h0]
      rw [ht, Nat.add_zero, ih, Nat.min_eq_right (by omega), Nat.min_eq_right (by omega)]

theorem wholly_iff (E : Int) (all : List UInt8) : (∀ c ∈ all.drop (min (max E 0) all.length).toNat, c = 48) ↔ Wholly E all := by
  constructor
  · intro h i hi hE
    refine h _ ?_
    rw [List.mem_iff_getElem]
    refine ⟨i - (min (max E 0) all.length).toNat, by rw [List.length_drop]; omega, ?_⟩
    rw [List.getElem_drop]
    congr 1
    omega
  · intro h c hc
    obtain ⟨i, hi, rfl⟩ := List.mem_iff_getElem.1 hc
    rw [List.getElem_drop]
    rw [List.length_drop] at hi
    exact h _ (by omega) (by omega)

theorem wholeAt_yes (b : Bool) (all : List UInt8) (E : Int) (h : Wholly E all) : wholeAt b all E = signed b (wsum E all all.length) := by
  rw [wholeAt, if_pos ((wholly_iff E all).2 h), wsum_at E all h all.length (Nat.le_refl _), Nat.min_eq_right (by omega)]

theorem wholeAt_no (b : Bool) (all : List UInt8) (E : Int) (i : Nat) (hi : i < all.length) (h : E ≤ (i : Int)) (hne : all[i] ≠ 48) : wholeAt b all E = .error 11 := by
  rw [wholeAt, if_neg (fun hh => hne ((wholly_iff E all).1 hh i hi h))]

theorem term_zero (E : Int) (all : List UInt8) (k : Nat) (hk : k < all.length) (h : all[k] = 48) : term E all k = 0 := by
  unfold term; rw [List.getElem?_eq_getElem hk]; simp only; rw [if_pos h]

theorem term_fig (E : Int) (all : List UInt8) (k : Nat) (hk : k < all.length) (h : all[k] ≠ 48) : term E all k = (all[k].toNat - 48) * 10 ^ (E - 1 - k).toNat := by
  unfold term; rw [List.getElem?_eq_getElem hk]; simp only; rw [if_neg h]

end Go.Proofs.YtlmogijkkhdogaaGreatDoor

namespace Go.Proofs.YtlmogijkkhdogaaGreatDoor
open Go.RowKit
set_option maxRecDepth 100000

theorem digs_yes {c : UInt8} {t : List UInt8} (h : dig c = true) : digs (c :: t) = c :: digs t := by simp [digs, h]
theorem digs_no {c : UInt8} {t : List UInt8} (h : dig c = false) : digs (c :: t) = [] := by simp [digs, h]

theorem digs_app (l : List UInt8) : digs l ++ rest l = l := List.takeWhile_append_dropWhile

theorem digAt_digs : ∀ (m : List UInt8) (k : Nat), k ≤ (digs m).length → digAt m k = decide (k < (digs m).length)
  | [], k, h => by
    have : k = 0 := by simpa [digs] using h
    subst this; rfl
  | c :: t, k, h => by
    cases hc : dig c with
    | true =>
      rw [digs_yes hc] at h ⊢
      cases k with
      | zero => simp [digAt, hc]
      | succ k =>
        have h2 := digAt_digs t k (by simpa using h)
        have h3 : digAt (c :: t) (k + 1) = digAt t k := by simp [digAt]
        rw [h3, h2]; simp
    | false =>
      rw [digs_no hc] at h ⊢
      have : k = 0 := by simpa using h
      subst this; simp [digAt, hc]

theorem digAt_drop (l : List UInt8) (i k : Nat) : digAt (l.drop i) k = digAt l (i + k) := by simp [digAt, List.getElem?_drop]

theorem digAt_at (l : List UInt8) (i k : Nat) (h : k ≤ (digs (l.drop i)).length) : digAt l (i + k) = decide (k < (digs (l.drop i)).length) := by
  rw [← digAt_drop]; exact digAt_digs _ _ h

theorem digs_le (l : List UInt8) : (digs l).length ≤ l.length := by
  have := congrArg List.length (digs_app l)
  rw [List.length_append] at this; omega

theorem rest_drop (l : List UInt8) (i : Nat) : rest (l.drop i) = l.drop (i + (digs (l.drop i)).length) := by
  have h := digs_app (l.drop i)
  have h2 : ∀ a b m : List UInt8, a ++ b = m → b = m.drop a.length := fun a b m e => by rw [← e, List.drop_left]
  rw [h2 _ _ _ h, List.drop_drop]

theorem digs_dig (m : List UInt8) : ∀ c ∈ digs m, dig c = true := fun c hc => (List.all_takeWhile (l := m) (p := dig) |> List.all_eq_true.1) c hc

theorem digs_get (m : List UInt8) (k : Nat) (h : k < (digs m).length) : m[k]? = some (digs m)[k] := by
  have h2 := digs_app m
  conv => lhs; rw [← h2]
  rw [List.getElem?_append_left h, List.getElem?_eq_getElem h]

theorem digs_at_get (l : List UInt8) (i k : Nat) (h : k < (digs (l.drop i)).length) : ∃ hl : i + k < l.length, (digs (l.drop i))[k] = l[i + k] ∧ dig l[i + k] = true := by
  have h1 := digs_get (l.drop i) k h
  rw [List.getElem?_drop] at h1
  obtain ⟨hl, he⟩ := List.getElem?_eq_some_iff.1 h1
  exact ⟨hl, he.symm, by rw [he]; exact digs_dig _ _ (List.getElem_mem h)⟩

/-- a figure as the reference keeps it. -/
def figV (c : UInt8) : Value := .int .i64 (IntKind.i64.wrap (IntKind.u8.wrap ((c.toNat : Int) - 48)))

theorem figV_dig (c : UInt8) (h : dig c = true) : figV c = .int .i64 ((c.toNat - 48 : Nat) : Int) := by
  have hc := (dig_iff c).1 h
  rw [figV, IntKind.wrap_u8, IntKind.wrap_i64]
  congr 1
  omega

theorem capFrom_snoc (acc : Nat) (l : List UInt8) (c : UInt8) : capFrom acc (l ++ [c]) = min (capFrom acc l * 10 + (c.toNat - 48)) 1000 := by
  rw [capFrom_append]; rfl

theorem capFrom_le (l : List UInt8) (acc : Nat) (h : acc ≤ 1000) : capFrom acc l ≤ 1000 := by
  induction l generalizing acc with
  | nil => exact h
  | cons c l ih => rw [capFrom_cons]; exact ih _ (Nat.min_le_right _ _)

/-- the exponent as the reference reads it off the part of a text behind its e. -/
def refExp (pw : List UInt8) : Int := if pw.head? = some 45 then -(capFrom 0 pw.tail : Int) else if pw.head? = some 43 then (capFrom 0 pw.tail : Int) else (capFrom 0 pw : Int)

theorem refExp_nil : refExp [] = 0 := rfl
theorem refExp_minus (ds : List UInt8) : refExp (45 :: ds) = -(capFrom 0 ds : Int) := by simp [refExp]
theorem refExp_plus (ds : List UInt8) : refExp (43 :: ds) = (capFrom 0 ds : Int) := by simp [refExp]
theorem refExp_plain (ds : List UInt8) (hd : ∀ c ∈ ds, dig c = true) : refExp ds = (capFrom 0 ds : Int) := by
  cases ds with
  | nil => rfl
  | cons c t =>
    have hc := (dig_iff c).1 (hd c (by simp))
    unfold refExp
    rw [if_neg (by simp; intro e; rw [e] at hc; exact absurd hc.1 (by decide)), if_neg (by simp; intro e; rw [e] at hc; exact absurd hc.1 (by decide))]

/-- what the reference's Parse keeps at a point: the place i is its own; below, the figures so far, the point, the exponent. -/
def RefX (w : World) (b : Bool) (ds : List UInt8) (pt pw : Int) (wx : World) : Prop :=
  Below w.heap.size w wx ∧ wx.heap[w.heap.size]? = some (.cells #[.bool false, .slice none 0 0, .int .i64 0, .int .i64 0] 45 (0, 0)) ∧ w.heap.size + 1 < wx.heap.size ∧
    ∃ u, wx.heap[w.heap.size + 1]? = some (.cells #[.bool b, u, .int .i64 pt, .int .i64 pw] 45 (0, 0)) ∧ wx.ownsRow (w.heap.size + 2) 3 1 u ds.length (ds.map figV)

end Go.Proofs.YtlmogijkkhdogaaGreatDoor
