import Derived.Test.YtoimjnmhinfbkaaGreatDoorMd
import Derived.StillTailTactics
namespace Go.Proofs.YtoimjnmhinfbkaaGreatDoor
open Go.RowKit
set_option maxRecDepth 100000

theorem contains_strs (B : Option Addr) (ns : List ByteArray) (c : Nat) (x : ByteArray) (w : World) (S : Nat → Prop) (h : Strs w S B ns) (hl : ns.length ≤ 8388608) :
    Calls Tryz.prog 102 #[.slice B ns.length c, .string x] w fun e w' => e = .returned (.bool (Lib.containsS ns x)) ∧ w' = w := by
  rcases h with h | ⟨b, o, hA, hS, hr⟩
  · subst h
    exact Tryz.slices_Contains_string_empty B c x w
  · subst hA
    have := Tryz.slices_Contains_string b o ns.length c ns x w (Nat.le_refl _) (by omega) (fun j hj => by
      have := hr j (by simpa using hj)
      simpa [List.getD_eq_getElem?_getD, hj] using this)
    rwa [List.take_length] at this

theorem one_kind (k : Int) (t : Bool) (x : ByteArray) (A : Option Addr) (n ca : Nat) (B : Option Addr) (m cb : Nat) (p : ByteArray) (T : Value) (w : World) (h : (k == 3) = false) :
    Calls Tryz.prog 60 #[.agg #[.int .i64 k, .bool t, .string x, .slice A n ca, .slice B m cb, .string p], T] w (Threw w 11 p) := by
  go_enter Tryz.func60, Tryz.ntmps60
  go_wp2_with (go_at_call 51; refine (kind_no _ _ _ _ _ _ _ _ _ _ _ _ h).mono ?_; rintro e w' ⟨g, rfl, h⟩)
  exact ⟨rfl, Threw.of ⟨g, rfl, h⟩ ((Below.refl _ _).alloc (Nat.le_refl _) _)⟩

theorem one_no (t : Bool) (x : ByteArray) (A : Option Addr) (n ca : Nat) (B : Option Addr) (m cb : Nat) (p : ByteArray) (T : Option Addr) (ts : List ByteArray) (ct : Nat) (w : World) (S : Nat → Prop) (hT : Strs w S T ts) (hl : ts.length ≤ 8388608)
    (hc : Lib.containsS ts x = false) :
    Calls Tryz.prog 60 #[.agg #[.int .i64 3, .bool t, .string x, .slice A n ca, .slice B m cb, .string p], .slice T ts.length ct] w (Threw w 2 p) := by
  have HT := Lib.hid hT
  have HC := Lib.hid hc
  clear hT hc
  go_enter Tryz.func60, Tryz.ntmps60
  go_wp2_with (go_at_call 51; refine (kind_yes _ _ _ _ _ _ _ _ _ _ _ _ (by rfl)).mono ?_; rintro e w1 ⟨rfl, hb1⟩; obtain ⟨hc1, hf1⟩ := bcell hb1; have hz1 : w.heap.size < w1.heap.size := (by have := hb1.size; simp at this; omega); have hB := (((Below.refl w.heap.size w).alloc (Nat.le_refl _) _).trans (hb1.mono (by simp))))
  have HB := Lib.hid hB
  clear hB
  go_region_with (first | (go_at_call 102; refine (contains_strs T ts ct x w1.drew S (HT.out.agree fun b hb hlt => ⟨HB.out.block b hlt, hb⟩) hl).mono ?_; rintro e w2 ⟨rfl, rfl⟩; rw [HC.out]) | (go_at_call 54; refine (lmust_no _ _ _ _ _ _ _ _ _ _ _ _).mono ?_; rintro e w' ⟨g, rfl, h⟩; refine (fun (_ : wpAny Tryz.prog .any #[] (fun _ _ _ => True) 0 #[] ⟨#[], []⟩ w') => ⟨rfl, Threw.of ⟨g, rfl, h⟩ HB.out.drew⟩) ?_))
  all_goals trivial

theorem one_yes (t : Bool) (x : ByteArray) (A : Option Addr) (n ca : Nat) (B : Option Addr) (m cb : Nat) (p : ByteArray) (T : Option Addr) (ts : List ByteArray) (ct : Nat) (w : World) (S : Nat → Prop) (hT : Strs w S T ts) (hl : ts.length ≤ 8388608)
    (hc : Lib.containsS ts x = true) :
    Calls Tryz.prog 60 #[.agg #[.int .i64 3, .bool t, .string x, .slice A n ca, .slice B m cb, .string p], .slice T ts.length ct] w fun e w' => e = .returned (.string x) ∧ Below w.heap.size w w' := by
  have HT := Lib.hid hT
  have HC := Lib.hid hc
  clear hT hc
  go_enter Tryz.func60, Tryz.ntmps60
  go_wp2_with (go_at_call 51; refine (kind_yes _ _ _ _ _ _ _ _ _ _ _ _ (by rfl)).mono ?_; rintro e w1 ⟨rfl, hb1⟩; obtain ⟨hc1, hf1⟩ := bcell hb1; have hz1 : w.heap.size < w1.heap.size := (by have := hb1.size; simp at this; omega); have hB := (((Below.refl w.heap.size w).alloc (Nat.le_refl _) _).trans (hb1.mono (by simp))))
  have HB := Lib.hid hB
  clear hB
  go_region_with (first | (go_at_call 102; refine (contains_strs T ts ct x w1.drew S (HT.out.agree fun b hb hlt => ⟨HB.out.block b hlt, hb⟩) hl).mono ?_; rintro e w2 ⟨rfl, rfl⟩; rw [HC.out]) | (go_at_call 54; refine (lmust_yes _ _ _ _ _ _ _ _ _ _ _ _).mono ?_; rintro e w2 ⟨rfl, hb2⟩; obtain ⟨hc2, hf2⟩ := bcell hb2; have k2 : w2.cell? ⟨w.heap.size, 2, none⟩ = some (.string x) := (hc2 _ _ (by exact hz1)).trans ((hc1 _ _ (by simp)).trans (by simp [go_sem]))))
  all_goals
    go_wp2
    go_ret
    exact ⟨rfl, HB.out.drew.trans (hb2.mono HB.out.size)⟩

end Go.Proofs.YtoimjnmhinfbkaaGreatDoor

namespace Go.Proofs.YtoimjnmhinfbkaaGreatDoor
open Go.RowKit
set_option maxRecDepth 100000

set_option maxHeartbeats 800000 in
theorem one_doc_kind (k : Int) (t : Bool) (x : ByteArray) (A : Option Addr) (n ca : Nat) (B : Option Addr) (m cb : Nat) (p : ByteArray) (bad : Int) (wh : ByteArray) (T : Value) (w : World) (h : (k == 3) = false) :
    Calls Tryz.prog 66 #[.agg #[.int .i64 k, .bool t, .string x, .slice A n ca, .slice B m cb, .string p, .int .i64 bad, .string wh], T] w
      fun e w' => e = .returned (.tuple #[.string ⟨#[]⟩, docBad 11 p]) ∧ Below w.heap.size w w' := by
  go_enter Tryz.func66, Tryz.ntmps66
  go_wp2_with (go_at_call 65; refine (text_doc_kind _ _ _ _ _ _ _ _ _ _ _ _ _ _ h).mono ?_; rintro e w1 ⟨rfl, hb1⟩; unfold docBad; obtain ⟨hc1, hf1⟩ := bcell hb1; have hz1 : w.heap.size + 1 < w1.heap.size := (by have := hb1.size; simp at this; omega))
  go_region_with fail
  all_goals
    go_wp2
    refine bodyPost_ret (v := .tuple #[.string ⟨#[]⟩, docBad 11 p]) (by simp [results, docBad, Tryz.results66, go_sem, hc1, hz1, Nat.lt_succ_of_lt hz1]) rfl ?_
    refine ⟨rfl, ?_⟩
    (repeat (first | with_reducible refine Below.drew ?_ | with_reducible refine Below.alloc ?_ (by simp; omega) _ | with_reducible refine Below.setCell ?_ (by simp) _))
    exact (((Below.refl _ _).alloc (Nat.le_refl _) _).alloc (by simp) _).trans (hb1.mono (by simp; omega))

set_option maxHeartbeats 800000 in
theorem one_doc_yes (t : Bool) (x : ByteArray) (A : Option Addr) (n ca : Nat) (B : Option Addr) (m cb : Nat) (p : ByteArray) (bad : Int) (wh : ByteArray) (T : Option Addr) (ts : List ByteArray) (ct : Nat) (w : World) (S : Nat → Prop) (hT : Strs w S T ts) (hl : ts.length ≤ 8388608) (hx : x.size ≤ 1073741824) :
    Calls Tryz.prog 66 #[.agg #[.int .i64 3, .bool t, .string x, .slice A n ca, .slice B m cb, .string p, .int .i64 bad, .string wh], .slice T ts.length ct] w
      fun e w' => (e = .returned (if Lib.containsS ts x = true then .tuple #[.string x, docBad 0 ⟨#[]⟩] else .tuple #[.string ⟨#[]⟩, docBad 2 p])) ∧ Below w.heap.size w w' := by
  generalize hR : (if Lib.containsS ts x = true then Value.tuple #[.string x, docBad 0 ⟨#[]⟩] else .tuple #[.string ⟨#[]⟩, docBad 2 p]) = R
  have HR := Lib.hid hR
  clear hR
  have HT := Lib.hid hT
  clear hT
  go_enter Tryz.func66, Tryz.ntmps66
  go_wp2_with (go_at_call 65; refine (text_doc_some _ _ _ _ _ _ _ _ _ _ _ _ _ hx (by omega)).mono ?_; rintro e w1 ⟨rfl, hb1⟩; unfold docBad; obtain ⟨hc1, hf1⟩ := bcell hb1; have hz1 : w.heap.size + 1 < w1.heap.size := (by have := hb1.size; simp at this; omega))
  have hB := (((Below.refl w.heap.size w).alloc (Nat.le_refl _) (.cells #[.int .i64 3, .bool t, .string x, .slice A n ca, .slice B m cb, .string p, .int .i64 bad, .string wh] 46)).alloc (by simp) (.cells #[.int .i64 0, .bool false, .string ⟨#[]⟩, .slice none 0 0, .slice none 0 0, .string ⟨#[]⟩, .int .i64 0, .string ⟨#[]⟩] 46)).trans (hb1.mono (by simp; omega))
  have HB := Lib.hid hB
  clear hB
  have hz0 : w.heap.size < w1.heap.size := by omega
  have hzn : ¬ w.heap.size = w1.heap.size := by omega
  have m5 : w1.cell? ⟨w.heap.size, 5, none⟩ = some (.string p) := by rw [hc1 _ _ (by simp; omega)]; simp [go_sem]
  go_loop [21] (fun u => ∃ j : Nat, j ≤ ts.length ∧ u = .int .i64 j ∧ ∀ i, i < j → ts.getD i ByteArray.empty ≠ x) (fun u => ts.length - (intOf u).toNat)
  case atStart => exact ⟨0, Nat.zero_le _, rfl, fun i hi => absurd hi (Nat.not_lt_zero _)⟩
  case round =>
    obtain ⟨j, hj, rfl, hne⟩ := hrel
    have HNE := Lib.hid hne
    clear hne
    have hj0 : (0 : Int) ≤ (j : Int) := Int.natCast_nonneg _
    by_cases hlt : j < ts.length
    · have hj1 : (j : Int) < (ts.length : Int) := by omega
      obtain ⟨b, o, rfl, -, hbl, hc⟩ := HT.out.cell j hlt
      have hcj : w1.cell? ⟨b, o + j, none⟩ = some (.string ts[j]) := (cell_of_heap (HB.out.block b hbl)).trans (hc j hlt)
      have hbn : ¬ b = w1.heap.size := by have := HB.out.size; omega
      have hbn2 : b < w1.heap.size := by have := HB.out.size; omega
      clear hc
      cases hq : (x.toList == ts[j].toList) with
      | false =>
        have hnj : ts[j] ≠ x := by rintro h; rw [h, str_beq_self] at hq; cases hq
        have HNJ := Lib.hid hnj
        clear hnj
        go_wp2
        go_round
        case rel =>
          refine ⟨j + 1, hlt, by go_num, fun i hi => ?_⟩
          by_cases hij : i < j
          · exact HNE.out i hij
          · obtain rfl : i = j := by omega
            rw [List.getD_eq_getElem?_getD, List.getElem?_eq_getElem hlt]; exact HNJ.out
        case measure => simp [intOf]; omega
      | true =>
        have hyes : Lib.containsS ts x = true := (Lib.containsS_iff ts x).2 (by rw [str_beq_true hq]; exact List.getElem_mem hlt)
        have HY := Lib.hid hyes
        clear hyes
        go_wp2
        refine bodyPost_ret (v := .tuple #[.string x, docBad 0 ⟨#[]⟩]) (by simp [results, docBad, Tryz.results66, go_sem, hc1, hz1, Nat.lt_succ_of_lt hz1]) rfl ?_
        refine ⟨by rw [← HR.out, if_pos HY.out], ?_⟩
        (repeat (first | with_reducible refine Below.drew ?_ | with_reducible refine Below.alloc ?_ (by simp; omega) _ | with_reducible refine Below.setCell ?_ (by simp) _))
        exact HB.out
    · have hj2 : ¬ (j : Int) < (ts.length : Int) := by omega
      have hno : ¬ Lib.containsS ts x = true := fun h => by
        obtain ⟨i, hi, he⟩ := List.getElem_of_mem ((Lib.containsS_iff ts x).1 h)
        exact HNE.out i (by omega) (by rw [List.getD_eq_getElem?_getD, List.getElem?_eq_getElem hi]; exact he)
      have HN := Lib.hid hno
      clear hno
      go_wp2_with (go_at_call 103; refine (wrong_doc _ _ _).mono ?_; rintro e w3 ⟨rfl, hb3⟩; obtain ⟨hc3, hf3⟩ := bcell hb3; have hy1 : w.heap.size + 1 < w3.heap.size := (by have := hb3.size; simp at this; omega))
      refine bodyPost_ret (v := .tuple #[.string ⟨#[]⟩, docBad 2 p]) (by simp [results, docBad, Tryz.results66, go_sem, hc3, hy1, hc1, hz1, Nat.lt_succ_of_lt hz1]) rfl ?_
      refine ⟨by rw [← HR.out, if_neg HN.out], ?_⟩
      (repeat (first | with_reducible refine Below.drew ?_ | with_reducible refine Below.setCell ?_ (by simp) _))
      exact (HB.out.alloc HB.out.size _).trans (hb3.mono (by have := HB.out.size; simp; omega))

end Go.Proofs.YtoimjnmhinfbkaaGreatDoor
