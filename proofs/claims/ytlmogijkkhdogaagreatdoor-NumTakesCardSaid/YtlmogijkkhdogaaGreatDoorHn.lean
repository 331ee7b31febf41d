/- A number's text is a body with its exponent. No program in sight. -/
import Derived.Test.YtlmogijkkhdogaaGreatDoorFe
namespace Go.Proofs.YtlmogijkkhdogaaGreatDoor
set_option maxRecDepth 100000

theorem digs_app' (l : List UInt8) : digs l ++ rest l = l := List.takeWhile_append_dropWhile
theorem digs_dig' (m : List UInt8) : ∀ c ∈ digs m, dig c = true := fun c hc => (List.all_takeWhile (l := m) (p := dig) |> List.all_eq_true.1) c hc
theorem isDig_eq (c : UInt8) : isDig c = dig c := rfl
theorem rest_head (l : List UInt8) : ∀ c t, rest l = c :: t → dig c = false := by
  intro c t h
  cases hd : dig c
  · rfl
  · exfalso
    have e := List.head?_dropWhile_not dig l
    unfold rest at h
    rw [h] at e
    simp only [List.head?_cons] at e
    rw [hd] at e; cases e
theorem behind_cases (s : List UInt8) : behindSign s = s ∨ ∃ b : Bool, s = (if b then 45 else 43) :: behindSign s := by
  cases s with
  | nil => exact Or.inl rfl
  | cons d t =>
    by_cases h : d = 43 ∨ d = 45
    · right
      have e : behindSign (d :: t) = t := by simp only [behindSign, if_pos h]
      rcases h with rfl | rfl
      · exact ⟨false, by rw [e]; rfl⟩
      · exact ⟨true, by rw [e]; rfl⟩
    · left
      simp only [behindSign, if_neg h]
theorem exp_list {b : Bool} {x y s : List UInt8} {p : Parts} (h : parseExp b x y s = some p) (hl : s.length ≤ 1000) : ∃ e : Ex, s = e.list ∧ e.ok := by
  cases s with
  | nil => exact ⟨.none, rfl, trivial⟩
  | cons c s =>
    cases hb : badE c with
    | true => rw [parseExp_bad hb] at h; cases h
    | false =>
      rw [parseExp_ok hb, parsePow] at h
      have hc : c = 101 ∨ c = 69 := by
        have : ¬ ((!(c == 101) && !(c == 69)) = true) := by rw [show (!(c == 101) && !(c == 69)) = badE c from rfl, hb]; simp
        simp only [Bool.and_eq_true, Bool.not_eq_true', beq_eq_false_iff_ne, ne_eq, not_and, Decidable.not_not] at this
        by_cases h1 : c = 101
        · exact Or.inl h1
        · exact Or.inr (this h1)
      split at h
      · cases h
      · rename_i hn
        have hne : digs (behindSign s) ≠ [] := fun e => hn (Or.inl e)
        have hre : rest (behindSign s) = [] := Decidable.not_not.1 fun e => hn (Or.inr e)
        have happ := digs_app' (behindSign s)
        rw [hre, List.append_nil] at happ
        have hd := digs_dig' (behindSign s)
        cases hds : digs (behindSign s) with
        | nil => exact absurd hds hne
        | cons d ds =>
          rw [hds] at happ hd
          have hok : isDig d = true ∧ ∀ q ∈ ds, isDig q = true := ⟨hd d (by simp), fun q hq => hd q (List.mem_cons_of_mem _ hq)⟩
          rcases behind_cases s with e | ⟨sg, e⟩
          · rw [← happ] at e
            refine ⟨.some c .none d ds, by rw [← e]; rfl, hc, hok.1, hok.2, ?_⟩
            rw [← e] at hl; simp at hl; omega
          · rw [← happ] at e
            refine ⟨.some c (.some sg) d ds, by rw [e]; rfl, hc, hok.1, hok.2, ?_⟩
            rw [e] at hl; simp at hl; omega
theorem dig_ne46 {c : UInt8} (h : dig c = true) : c ≠ 46 := by rintro rfl; exact absurd h (by decide)
theorem count46 {l : List UInt8} (h : ∀ c ∈ l, dig c = true) : l.count 46 = 0 := List.count_eq_zero.2 fun hm => dig_ne46 (h _ hm) rfl
theorem parts_txt {l : List UInt8} {p : Parts} (h : parseL l = some p) : ∃ b body x, l = txt b body x ∧ bodyOk body ∧ x.ok ∧ l.length ≤ 64 ∧ body.length ≤ 64 := by
  unfold parseL at h
  split at h
  · cases h
  · rename_i hl
    have hu : l = sgB (neg l) ++ unsign l := by
      unfold unsign sgB
      by_cases hn : neg l = true
      · rw [if_pos hn, if_pos hn]
        cases l with
        | nil => cases hn
        | cons c t => have : c = 45 := by simpa [neg] using hn
                      rw [this]; rfl
      · rw [if_neg hn, if_neg hn]; rfl
    have hul := unsign_length l
    generalize unsign l = u at *
    generalize neg l = b at *
    unfold parseTail at h
    split at h
    · cases h
    · rename_i hbad
      have happ := digs_app' u
      have hdr := digs_rest u
      have hdd := digs_dig' u
      have hne : digs u ≠ [] := by
        intro e; rw [e] at hbad; exact hbad rfl
      obtain ⟨c, t, hct⟩ : ∃ c t, digs u = c :: t := by
        cases e : digs u with
        | nil => exact absurd e hne
        | cons c t => exact ⟨c, t, rfl⟩
      unfold parseDot at h
      split at h
      · rename_i h46
        split at h
        · cases h
        · obtain ⟨y, hy⟩ : ∃ y, rest u = 46 :: y := by
            cases e : rest u with
            | nil => rw [e] at h46; cases h46
            | cons a y => rw [e] at h46; exact ⟨y, by simp at h46; rw [h46]⟩
          have hud : undot (rest u) = y := by unfold undot; rw [if_pos h46, hy]; rfl
          rw [hud] at h
          have hda := digs_app' y
          have hdr2 := digs_rest y
          have hdy := digs_dig' y
          have hyl : (rest u).length = y.length + 1 := by rw [hy]; rfl
          obtain ⟨e, he, hok⟩ := exp_list h (by omega)
          refine ⟨b, digs u ++ 46 :: digs y, e, ?_, ⟨?_, ?_, ?_, ?_⟩, hok, by omega, ?_⟩
          · rw [hu]
            unfold txt
            rw [← he, List.append_assoc, List.cons_append, hda, ← hy, happ]
          · intro q hq
            rcases List.mem_append.1 hq with h | h
            · exact Or.inl (hdd q h)
            · rcases List.mem_cons.1 h with h | h
              · exact Or.inr h
              · exact Or.inl (hdy q h)
          · rw [List.count_append, count46 hdd, List.count_cons, count46 hdy]; simp
          · exact ⟨c, t ++ 46 :: digs y, by rw [hct]; rfl, hdd c (by rw [hct]; simp)⟩
          · rw [List.length_append, List.length_cons]; omega
          · rw [List.length_append, List.length_cons]; omega
      · obtain ⟨e, he, hok⟩ := exp_list h (by omega)
        refine ⟨b, digs u, e, ?_, ⟨fun q hq => Or.inl (hdd q hq), by rw [count46 hdd]; omega, ⟨c, t, hct, hdd c (by rw [hct]; simp)⟩, by omega⟩, hok, by omega, by omega⟩
        rw [hu]
        unfold txt
        rw [← he, happ]
end Go.Proofs.YtlmogijkkhdogaaGreatDoor
