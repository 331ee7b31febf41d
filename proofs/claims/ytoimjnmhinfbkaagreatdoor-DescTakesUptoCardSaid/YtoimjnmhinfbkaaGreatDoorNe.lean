import Derived.Test.YtoimjnmhinfbkaaGreatDoorNd
namespace Go.Proofs.YtoimjnmhinfbkaaGreatDoor
open Go.RowKit
set_option maxRecDepth 100000

theorem dparse_any (l : List UInt8) (w : World) (hl : l.length ≤ 1073741824) : Calls Tryz.prog 108 #[.string ⟨l.toArray⟩] w (ParseRes w l) := by
  cases h : Lib.hasPrefix l shaP with
  | false => exact parse_pre l w hl h
  | true => exact parse_fig l w hl h

/-- as is: in brief. -/
theorem parse_brief (l : List UInt8) (w : World) (hl : l.length ≤ 1073741824) : Calls Tryz.prog 108 #[.string ⟨l.toArray⟩] w fun e w' => (∃ cs : List Value, cs.length = 32 ∧ (∀ v ∈ cs, v.oneCell' = true) ∧ e = .returned (.tuple #[.agg cs.toArray, if nameB l = true then .nilIface else .iface 35 (.int .i64 2)])) ∧ Below w.heap.size w w' :=
  (dparse_any l w hl).mono fun e w' ⟨h, hb⟩ => by
    refine ⟨?_, hb⟩
    rcases h with ⟨h1, h2, h3⟩ | ⟨h1, h2⟩
    · exact ⟨_, h2, unhexV_int _, by rw [h3, h1]; rfl⟩
    · exact ⟨zero32, rfl, byte1, by rw [h2, h1]; rfl⟩

set_option maxHeartbeats 800000 in
theorem is_any (l : List UInt8) (w : World) (hl : l.length ≤ 1073741824) : Calls Tryz.prog 74 #[.string ⟨l.toArray⟩] w fun e w' => e = .returned (.bool (nameB l)) ∧ Below w.heap.size w w' := by
  have HP := Lib.hid (fun W => parse_brief l W hl)
  have HT := Lib.hid (fun W : World => (has32 W).there)
  cases hn : nameB l with
  | false =>
    rw [hn] at HP
    simp only [Bool.false_eq_true, if_false] at HP
    clear hn
    go_enter Tryz.func74, Tryz.ntmps74
    go_wp2_with (first | (go_at_call 108; refine (HP.out _).mono ?_; rintro e w1 ⟨⟨cs, hcs, hone, rfl⟩, hb1⟩; have HC := Lib.hid hcs; have HO := Lib.hid hone; have HB1 := Lib.hid hb1; clear hcs hone hb1) | (refine wpList_store_mid (by rfl) 177 (.tmp 3) (.tmp 8) (by rfl) w1.heap.size 0 cs.toArray (by rfl) (by rfl) (by simpa [HC.out] using HT.out w1) (by simpa [HC.out] using hi177) (all_ones _ HO.out) ?_))
    go_ret
    exact ⟨rfl, setCells_below _ (by have := HB1.out.size; omega) _ _ (HB1.out.alloc (by have := HB1.out.size; omega) _)⟩
  | true =>
    rw [hn] at HP
    simp only [if_true] at HP
    clear hn
    go_enter Tryz.func74, Tryz.ntmps74
    go_wp2_with (first | (go_at_call 108; refine (HP.out _).mono ?_; rintro e w1 ⟨⟨cs, hcs, hone, rfl⟩, hb1⟩; have HC := Lib.hid hcs; have HO := Lib.hid hone; have HB1 := Lib.hid hb1; clear hcs hone hb1) | (refine wpList_store_mid (by rfl) 177 (.tmp 3) (.tmp 8) (by rfl) w1.heap.size 0 cs.toArray (by rfl) (by rfl) (by simpa [HC.out] using HT.out w1) (by simpa [HC.out] using hi177) (all_ones _ HO.out) ?_))
    go_ret
    exact ⟨rfl, setCells_below _ (by have := HB1.out.size; omega) _ _ (HB1.out.alloc (by have := HB1.out.size; omega) _)⟩

end Go.Proofs.YtoimjnmhinfbkaaGreatDoor
