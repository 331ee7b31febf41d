/- The law NumTells: true of any 64 bits. Conditions: what the library's own variables hold. -/
import Derived.Test.YtlmogijkkhdogaaGreatDoorGi
namespace Go.Proofs.YtlmogijkkhdogaaGreatDoor
open Go.RowKit
set_option maxRecDepth 100000
attribute [local go_sem] run62 run14

theorem lawTells_any (x : Nat) (hx : x < 18446744073709551616) (w : World) (hg : Glob w) (ht : Tab10 w) (hw : 9 < w.heap.size) :
    Calls Tryz.prog 3 #[.int .u64 x] w fun e w' => e = .returned (.bool true) ∧ Below w.heap.size w w' := by
  have HA := Lib.hid (alive_any w hg)
  have HG := Lib.hid hg
  have HT := Lib.hid ht
  clear hg ht
  have hx0 : (x : Int).toNat = x := by simp
  by_cases hi : frung x < I52
  · have H1 := Lib.hid (text_good x hx hi)
    have H2 := Lib.hid (doc_good x hx hi)
    generalize textR x = tx at *
    clear hi
    go_enter Tryz.func3, Tryz.ntmps3
    go_wp2_with (first
      | (go_at_call 13; refine (HA.out).mono ?_; rintro e w1 ⟨rfl, hb1⟩; have z1 : 9 < w1.heap.size := (Nat.lt_of_lt_of_le hw hb1.size); have g1 := Lib.hid (HG.out.below hb1); have t1 := Lib.hid (HT.out.below (by omega) hb1))
      | (go_at_call 15; refine (H1.out _ g1.out t1.out z1).mono ?_; rintro e w2 ⟨rfl, hb2⟩; have z2 : 9 < w2.heap.size := (Nat.lt_of_lt_of_le z1 hb2.size); have g2 := Lib.hid (g1.out.below hb2); have t2 := Lib.hid (t1.out.below (by omega) hb2))
      | (go_at_call 16; refine (H2.out _ g2.out t2.out z2).mono ?_; rintro e w3 ⟨rfl, hb3⟩)
      | (go_at_call 17; refine (num_nil _).mono ?_; rintro e w' ⟨rfl, rfl⟩))
    go_ret
    exact ⟨rfl, hb1.trans ((hb2.mono hb1.size).trans (hb3.mono (Nat.le_trans hb1.size hb2.size)))⟩
  · have H1 := Lib.hid (text_bad x hx (by omega))
    have H2 := Lib.hid (doc_bad x hx (by omega))
    clear hi
    go_enter Tryz.func3, Tryz.ntmps3
    go_wp2_with (first
      | (go_at_call 13; refine (HA.out).mono ?_; rintro e w1 ⟨rfl, hb1⟩)
      | (go_at_call 15; refine (H1.out _).mono ?_; rintro e w2 ⟨rfl, rfl⟩)
      | (go_at_call 16; refine (H2.out _).mono ?_; rintro e w3 ⟨rfl, rfl⟩)
      | (go_at_call 17; refine (num_err 1 (by decide) _).mono ?_; rintro e w' ⟨rfl, rfl⟩))
    go_ret
    exact ⟨rfl, hb1⟩
end Go.Proofs.YtlmogijkkhdogaaGreatDoor
