/- strconv.FormatFloat of a finite float at 'e' and -1: its text hangs on its bits alone. math.Trunc, the document's whole float. -/
import Derived.Test.YtlmogijkkhdogaaGreatDoorGf
import Derived.Lib.BufferRead
import Derived.Laws.IdiomStrings
import Derived.Laws.MakeOwn
namespace Go.Proofs.YtlmogijkkhdogaaGreatDoor
open Go.RowKit
set_option maxRecDepth 100000

theorem conv_own {w : World} {B : Nat} {v : Value} {txt : List UInt8} (h : w.ownsRow B 5 1 v txt.length (Lib.byteCells txt)) : (convert 54 9 v).run Tryz.prog w = .ok (.string ⟨txt.toArray⟩) w := by
  have hc := fun g hg => h.cells (g := g) hg
  rcases h.2 with ⟨rfl, h0⟩ | ⟨g, cap, cur, rfl, _⟩
  · have e : txt = [] := List.length_eq_zero_iff.1 h0
    subst e
    exact Lib.run_convert_nil_bytes w 54 9 5 0 Tryz.underlying54 Tryz.underlying5 Tryz.underlying9
  · refine run_convert_bytes_back w 54 9 5 ⟨g, 0, none⟩ cap txt Tryz.underlying54 Tryz.underlying5 Tryz.underlying9 fun j hj => hc g rfl j _ ?_
    simp [Lib.byteCells, hj]

theorem format_ex (x : Nat) (hx : x < 18446744073709551616) (h0 : frung x ≠ 0) (hi : frung x < I52) :
    ∃ txt : List UInt8, ∀ (w : World), Glob w → Tab10 w → 9 < w.heap.size →
      Calls Tryz.prog 57 #[.float .f64 x, .int .u8 101, .int .i64 (-1), .int .i64 64] w fun e w' => e = .returned (.string ⟨txt.toArray⟩) ∧ Below w.heap.size w w' := by
  obtain ⟨txt, hl, H⟩ := ftoa_ex x hx h0 hi
  refine ⟨txt, fun w hg ht hw => ?_⟩
  have HF := Lib.hid H
  have HG := Lib.hid hg
  have HT := Lib.hid ht
  have h86 : Calls Tryz.prog 86 #[.float .f64 x, .int .u8 101, .int .i64 (-1), .int .i64 64] w fun e w' => e = .returned (.string ⟨txt.toArray⟩) ∧ Below w.heap.size w w' := by
    clear H hg ht
    obtain ⟨i0, hi0, hz0, hzz1, hzz2⟩ := info_parts info5
    obtain ⟨w1, hmk, hown, hgr⟩ := run_makeSlice_owned (P := Tryz.prog) w w.heap.size 54 5 i0 (.int .u8 0) 1 Tryz.underlying54 hi0 hz0 hzz1 .i64 .i64 24 (by decide) (by rw [hzz2]; decide) (by decide) (Nat.le_refl _)
    have hb1 : Below w.heap.size w w1 := (Below.refl w.heap.size w).grown hgr (Nat.le_refl _) (fun k hk => by cases hk)
    have hmx : max (3 : Int) 24 = 24 := by decide
    have hmk' : (Instr.makeSlice 54 (.int .i64 0) (.int .i64 24)).run Tryz.prog w = .ok (.slice (some ⟨w.heap.size, 0, none⟩) 0 24) w1 := hmk
    have HG1 := Lib.hid (HG.out.below hb1)
    have HT1 := Lib.hid (HT.out.below (by omega) hb1)
    have HO := Lib.hid hown
    have HB := Lib.hid hb1
    have hs1 : w.heap.size ≤ w1.heap.size := hb1.size
    clear hmk hown hgr hb1 HG HT hi0 hz0 hzz1 hzz2
    generalize hvv : Value.slice (some ⟨w.heap.size, 0, none⟩) 0 24 = vv at *
    go_enter Tryz.func86, Tryz.ntmps86
    go_wp2_with (first
      | (go_at_call 118; refine (HF.out _ w.heap.size vv HG1.out HT1.out hw hs1 HO.out).mono ?_; rintro e w2 ⟨v2, rfl, hown2, hb2⟩; have hcv := conv_own hown2; have HB2 := Lib.hid hb2; clear hb2 hown2))
    go_ret
    exact ⟨rfl, HB.out.trans HB2.out⟩
  have HH := Lib.hid h86
  clear H hg ht h86 HF HG HT
  go_enter Tryz.func57, Tryz.ntmps57
  go_wp2_with (go_at_call 86; refine HH.out.mono ?_; rintro e w' ⟨rfl, hb⟩)
  go_ret
  exact ⟨rfl, hb⟩
end Go.Proofs.YtlmogijkkhdogaaGreatDoor
