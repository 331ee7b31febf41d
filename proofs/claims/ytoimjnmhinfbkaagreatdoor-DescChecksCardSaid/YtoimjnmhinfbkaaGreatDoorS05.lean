import Derived.Deep.MidRow
import Derived.Test.YtoimjnmhinfbkaaGreatDoorS03
import Derived.Test.YtoimjnmhinfbkaaGreatDoorS04
namespace Go.Proofs.YtoimjnmhinfbkaaGreatDoor
open Go.RowKit
set_option maxRecDepth 100000
theorem cut_prefix (l p : List UInt8) (w : World) : Calls Tryz.prog 133 #[.string ⟨l.toArray⟩, .string ⟨p.toArray⟩] w fun e w' => e = .returned (.tuple #[.string ⟨(Lib.trimPrefix l p).toArray⟩, .bool (Lib.hasPrefix l p)]) ∧ w = w' :=
  (Tryz.strings_CutPrefix ⟨l.toArray⟩ ⟨p.toArray⟩ w).mono fun e w' ⟨h1, h2⟩ => ⟨by simpa using h1, h2.symm⟩
theorem trim_le (l p : List UInt8) : (Lib.trimPrefix l p).length ≤ l.length := by
  unfold Lib.trimPrefix
  split
  · simp
  · exact Nat.le_refl _
def shaP : List UInt8 := [115, 104, 97, 50, 53, 54, 58]
/-- 32 noughts. -/
def zero32 : List Value := List.replicate 32 (.int .u8 0)
def ParseRes (w : World) (l : List UInt8) (e : Ending) (w' : World) : Prop :=
  ((nameB l = true ∧ (unhexV (Lib.trimPrefix l shaP)).length = 32 ∧ e = .returned (.tuple #[.agg (unhexV (Lib.trimPrefix l shaP)).toArray, .nilIface])) ∨ (nameB l = false ∧ e = .returned (.tuple #[.agg zero32.toArray, .iface 35 (.int .i64 2)]))) ∧ Below w.heap.size w w'
/-- the world with the result's own block: told by what is known of it. -/
structure Has32 (w W : World) : Prop where
  size : W.heap.size = w.heap.size + 1
  below : Below w.heap.size w W
  there : W.there w.heap.size 0 32
theorem has32 (w : World) : Has32 w (w.alloc (.cells #[.int .u8 0, .int .u8 0, .int .u8 0, .int .u8 0, .int .u8 0, .int .u8 0, .int .u8 0, .int .u8 0, .int .u8 0, .int .u8 0, .int .u8 0, .int .u8 0, .int .u8 0, .int .u8 0, .int .u8 0, .int .u8 0, .int .u8 0, .int .u8 0, .int .u8 0, .int .u8 0, .int .u8 0, .int .u8 0, .int .u8 0, .int .u8 0, .int .u8 0, .int .u8 0, .int .u8 0, .int .u8 0, .int .u8 0, .int .u8 0, .int .u8 0, .int .u8 0] 177)) := by
  have h0 := heap_alloc_new w (.cells #[.int .u8 0, .int .u8 0, .int .u8 0, .int .u8 0, .int .u8 0, .int .u8 0, .int .u8 0, .int .u8 0, .int .u8 0, .int .u8 0, .int .u8 0, .int .u8 0, .int .u8 0, .int .u8 0, .int .u8 0, .int .u8 0, .int .u8 0, .int .u8 0, .int .u8 0, .int .u8 0, .int .u8 0, .int .u8 0, .int .u8 0, .int .u8 0, .int .u8 0, .int .u8 0, .int .u8 0, .int .u8 0, .int .u8 0, .int .u8 0, .int .u8 0, .int .u8 0] 177)
  refine ⟨by simp, (Below.refl _ _).alloc (Nat.le_refl _) _, fun j hj => ⟨?_, ?_⟩⟩
  · rw [Nat.zero_add, cell_of_row _ _ j _ _ (0, 0) h0]
    rw [Array.getElem?_eq_getElem (by simpa using hj)]; rfl
  · unfold World.frozen?
    rw [h0]
    simp
theorem there_below {w w1 : World} {b o n : Nat} (h : w.there b o n) (hb : w1.heap[b]? = w.heap[b]?) : w1.there b o n := fun j hj => by
  rw [cell_of_heap hb, World.frozen?_of_block (a := ⟨b, o + j, none⟩) hb]; exact h j hj
theorem hu177 : Tryz.prog.underlying 177 = some (.array 32 5) := by kernel_rfl
theorem at177 (g c : Nat) (w : World) : (Instr.arrayAt 177 (.slice (some ⟨g, 0, none⟩) 32 c)).run Tryz.prog w = .ok (.pointer (some ⟨g, 0, none⟩)) w := by
  unfold Instr.arrayAt
  rw [Sem.run_bind, run_underlying hu177 w]
  rfl
theorem hi177 : (Tryz.prog.info? 177).map (·.size) = some 32 := by kernel_rfl
theorem byte1 : ∀ v ∈ zero32, v.oneCell' = true := by decide
theorem all_ones (l : List Value) (h : ∀ v ∈ l, v.oneCell' = true) : l.toArray.all (·.oneCell') = true := by
  rw [Array.all_eq_true_iff_forall_mem]
  intro v hv
  exact h v (by simpa using hv)
theorem ones32 : (#[.int .u8 0, .int .u8 0, .int .u8 0, .int .u8 0, .int .u8 0, .int .u8 0, .int .u8 0, .int .u8 0, .int .u8 0, .int .u8 0, .int .u8 0, .int .u8 0, .int .u8 0, .int .u8 0, .int .u8 0, .int .u8 0, .int .u8 0, .int .u8 0, .int .u8 0, .int .u8 0, .int .u8 0, .int .u8 0, .int .u8 0, .int .u8 0, .int .u8 0, .int .u8 0, .int .u8 0, .int .u8 0, .int .u8 0, .int .u8 0, .int .u8 0, .int .u8 0] : Array Value).all (·.oneCell') = true := all_ones _ (by decide)
theorem results108 (tmps : Array Value) (w : World) (b : Nat) (cs : List Value) (x : Value) (h2 : tmps.getD 2 undef = .pointer (some ⟨b, 0, none⟩)) (h3 : tmps.getD 3 undef = x) (hc : w.rangeAt b 0 cs) (hl : cs.length = 32) :
    (results Tryz.f108 tmps).run Tryz.prog w = .ok (.tuple #[.agg cs.toArray, x]) w := by
  have hr := run_loadVar_mid (P := Tryz.prog) w b 0 177 cs (.array 32 5) hc hu177 rfl (by rw [hl]; exact hi177)
  rw [Array.getD_eq_getD_getElem?] at h2 h3
  simp [results, Tryz.results108, h2, h3, hr, asAddr, Sem.run_bind]
theorem parse_end_no {w W w1 : World} {l : List UInt8} (HN : nameB l = false) (H3 : Has32 w W) (hb1 : Below W.heap.size W w1) (hth : w1.there w.heap.size 0 32) (tmps : Array Value) (ds : List Deferred)
    (h2 : tmps.getD 2 undef = .pointer (some ⟨w.heap.size, 0, none⟩)) (h3 : tmps.getD 3 undef = .iface 35 (.int .i64 2)) (hd : ds = []) :
    bodyPost Tryz.prog Tryz.f108 (ParseRes w l) .ret ⟨tmps, ds⟩ (w1.setCells w.heap.size 0 [.int .u8 0, .int .u8 0, .int .u8 0, .int .u8 0, .int .u8 0, .int .u8 0, .int .u8 0, .int .u8 0, .int .u8 0, .int .u8 0, .int .u8 0, .int .u8 0, .int .u8 0, .int .u8 0, .int .u8 0, .int .u8 0, .int .u8 0, .int .u8 0, .int .u8 0, .int .u8 0, .int .u8 0, .int .u8 0, .int .u8 0, .int .u8 0, .int .u8 0, .int .u8 0, .int .u8 0, .int .u8 0, .int .u8 0, .int .u8 0, .int .u8 0, .int .u8 0]) := by
  have hs := H3.size
  exact bodyPost_ret (results108 tmps _ w.heap.size zero32 _ h2 h3 (World.rangeAt_setCells_same _ _ _ _ (fun j hj => hth j (by simpa using hj))) rfl) hd
    ⟨.inr ⟨HN, rfl⟩, setCells_below _ (Nat.le_refl _) _ _ (H3.below.trans (hb1.mono (by omega)))⟩
theorem parse_end_yes {w W w1 : World} {l : List UInt8} (HN : nameB l = true) (hx : (unhexV (Lib.trimPrefix l shaP)).length = 32) (H3 : Has32 w W) (hb1 : Below W.heap.size W w1) (hth : w1.there w.heap.size 0 32) (tmps : Array Value) (ds : List Deferred)
    (h2 : tmps.getD 2 undef = .pointer (some ⟨w.heap.size, 0, none⟩)) (h3 : tmps.getD 3 undef = .nilIface) (hd : ds = []) :
    bodyPost Tryz.prog Tryz.f108 (ParseRes w l) .ret ⟨tmps, ds⟩ (w1.setCells w.heap.size 0 (unhexV (Lib.trimPrefix l shaP))) := by
  have hs := H3.size
  exact bodyPost_ret (results108 tmps _ w.heap.size (unhexV (Lib.trimPrefix l shaP)) _ h2 h3 (World.rangeAt_setCells_same _ _ _ _ (fun j hj => hth j (by omega))) hx) hd
    ⟨.inl ⟨HN, hx, rfl⟩, setCells_below _ (Nat.le_refl _) _ _ (H3.below.trans (hb1.mono (by omega)))⟩
set_option maxHeartbeats 1600000 in
theorem parse_pre (l : List UInt8) (w : World) (hl : l.length ≤ 1073741824) (hp : Lib.hasPrefix l shaP = false) : Calls Tryz.prog 108 #[.string ⟨l.toArray⟩] w (ParseRes w l) := by
  have hn : nameB l = (false && hexB (Lib.trimPrefix l shaP) && ((Lib.trimPrefix l shaP).length / 2 == 32)) := by rw [name_parts]; unfold shaP at hp ⊢; rw [hp]
  have HN := Lib.hid hn
  have HCP := Lib.hid (show ∀ W, Calls Tryz.prog 133 #[.string ⟨l.toArray⟩, .string ⟨#[115, 104, 97, 50, 53, 54, 58]⟩] W fun e w' => e = .returned (.tuple #[.string ⟨(Lib.trimPrefix l shaP).toArray⟩, .bool false]) ∧ W = w' from fun W => by rw [← hp]; exact cut_prefix l shaP W)
  have ht := trim_le l shaP
  generalize ht0 : Lib.trimPrefix l shaP = t at *
  have HT := Lib.hid ht0
  clear ht0
  clear hn hp
  have H32 := has32 w
  go_enter Tryz.func108, Tryz.ntmps108
  go_wp2_with fail
  generalize w.alloc (.cells #[.int .u8 0, .int .u8 0, .int .u8 0, .int .u8 0, .int .u8 0, .int .u8 0, .int .u8 0, .int .u8 0, .int .u8 0, .int .u8 0, .int .u8 0, .int .u8 0, .int .u8 0, .int .u8 0, .int .u8 0, .int .u8 0, .int .u8 0, .int .u8 0, .int .u8 0, .int .u8 0, .int .u8 0, .int .u8 0, .int .u8 0, .int .u8 0, .int .u8 0, .int .u8 0, .int .u8 0, .int .u8 0, .int .u8 0, .int .u8 0, .int .u8 0, .int .u8 0] 177) = W at *
  have H3 := Lib.hid H32
  have hsz := H3.out.size
  go_wp2_with (go_at_call 133; refine (HCP.out _).mono ?_; rintro e w' ⟨rfl, rfl⟩)
  refine (unhex_any t _ (by omega)).mono ?_
  rintro e w1 ⟨⟨hx, v, rfl, hown⟩ | ⟨hx, rfl⟩, hb1⟩
  · obtain ⟨A, c, rfl, hcc, hlen, hrr⟩ := own_row hown
    have hth := Lib.hid (there_below H3.out.there (hb1.block _ (by omega)))
    have HB1 := Lib.hid hb1
    have hno := Lib.hid (show nameB l = false by rw [HN.out]; rfl)
    clear hown hrr hlen hb1 hsz H32 hx
    go_wp2_with (refine wpList_store_mid (by rfl) 177 (.tmp 2) (.tmp 29) (by rfl) w.heap.size 0 #[.int .u8 0, .int .u8 0, .int .u8 0, .int .u8 0, .int .u8 0, .int .u8 0, .int .u8 0, .int .u8 0, .int .u8 0, .int .u8 0, .int .u8 0, .int .u8 0, .int .u8 0, .int .u8 0, .int .u8 0, .int .u8 0, .int .u8 0, .int .u8 0, .int .u8 0, .int .u8 0, .int .u8 0, .int .u8 0, .int .u8 0, .int .u8 0, .int .u8 0, .int .u8 0, .int .u8 0, .int .u8 0, .int .u8 0, .int .u8 0, .int .u8 0, .int .u8 0] (by rfl) (by rfl) hth.out hi177 ones32 ?_)
    exact parse_end_no hno.out H3.out HB1.out hth.out _ _ rfl rfl rfl
  · have hth := Lib.hid (there_below H3.out.there (hb1.block _ (by omega)))
    have HB1 := Lib.hid hb1
    have hno := Lib.hid (show nameB l = false by rw [HN.out, hx]; simp)
    clear hb1 hsz H32 hx
    go_wp2_with (refine wpList_store_mid (by rfl) 177 (.tmp 2) (.tmp 29) (by rfl) w.heap.size 0 #[.int .u8 0, .int .u8 0, .int .u8 0, .int .u8 0, .int .u8 0, .int .u8 0, .int .u8 0, .int .u8 0, .int .u8 0, .int .u8 0, .int .u8 0, .int .u8 0, .int .u8 0, .int .u8 0, .int .u8 0, .int .u8 0, .int .u8 0, .int .u8 0, .int .u8 0, .int .u8 0, .int .u8 0, .int .u8 0, .int .u8 0, .int .u8 0, .int .u8 0, .int .u8 0, .int .u8 0, .int .u8 0, .int .u8 0, .int .u8 0, .int .u8 0, .int .u8 0] (by rfl) (by rfl) hth.out hi177 ones32 ?_)
    exact parse_end_no hno.out H3.out HB1.out hth.out _ _ rfl rfl rfl
set_option maxHeartbeats 1600000 in
theorem parse_fig (l : List UInt8) (w : World) (hl : l.length ≤ 1073741824) (hp : Lib.hasPrefix l shaP = true) : Calls Tryz.prog 108 #[.string ⟨l.toArray⟩] w (ParseRes w l) := by
  have hn : nameB l = (true && hexB (Lib.trimPrefix l shaP) && ((Lib.trimPrefix l shaP).length / 2 == 32)) := by rw [name_parts]; unfold shaP at hp ⊢; rw [hp]
  have HN := Lib.hid hn
  have HCP := Lib.hid (show ∀ W, Calls Tryz.prog 133 #[.string ⟨l.toArray⟩, .string ⟨#[115, 104, 97, 50, 53, 54, 58]⟩] W fun e w' => e = .returned (.tuple #[.string ⟨(Lib.trimPrefix l shaP).toArray⟩, .bool true]) ∧ W = w' from fun W => by rw [← hp]; exact cut_prefix l shaP W)
  have ht := trim_le l shaP
  generalize ht0 : Lib.trimPrefix l shaP = t at *
  have HT := Lib.hid ht0
  clear ht0
  clear hn hp
  have H32 := has32 w
  go_enter Tryz.func108, Tryz.ntmps108
  go_wp2_with fail
  generalize w.alloc (.cells #[.int .u8 0, .int .u8 0, .int .u8 0, .int .u8 0, .int .u8 0, .int .u8 0, .int .u8 0, .int .u8 0, .int .u8 0, .int .u8 0, .int .u8 0, .int .u8 0, .int .u8 0, .int .u8 0, .int .u8 0, .int .u8 0, .int .u8 0, .int .u8 0, .int .u8 0, .int .u8 0, .int .u8 0, .int .u8 0, .int .u8 0, .int .u8 0, .int .u8 0, .int .u8 0, .int .u8 0, .int .u8 0, .int .u8 0, .int .u8 0, .int .u8 0, .int .u8 0] 177) = W at *
  have H3 := Lib.hid H32
  have hsz := H3.out.size
  go_wp2_with (go_at_call 133; refine (HCP.out _).mono ?_; rintro e w' ⟨rfl, rfl⟩)
  refine (unhex_any t _ (by omega)).mono ?_
  rintro e w1 ⟨⟨hx, v, rfl, hown⟩ | ⟨hx, rfl⟩, hb1⟩
  · obtain ⟨A, c, rfl, hcc, hlen, hrr⟩ := own_row hown
    have hth := Lib.hid (there_below H3.out.there (hb1.block _ (by omega)))
    have HB1 := Lib.hid hb1
    by_cases h32 : t.length / 2 = 32
    · obtain ⟨g, rfl, hg1, hg2, hrow, hfr⟩ := hrr.resolve_left (by rintro ⟨-, h0⟩; omega)
      have hyes := Lib.hid (show nameB l = true by rw [HN.out, hx]; simp [h32])
      rw [h32] at hlen hown hcc ⊢
      have HXL := Lib.hid (show (unhexV t).length = 32 by omega)
      have hrange := Lib.hid (show w1.rangeAt g 0 (unhexV t) from fun j v hv => by
        obtain ⟨hj, rfl⟩ := List.getElem?_eq_some_iff.1 hv
        exact hrow j hj)
      have hones := Lib.hid (unhexV_int t)
      have hat := at177 g c
      clear hown hrow hfr hlen hb1 hsz H32 hx h32
      go_wp2_with (first | (refine wpList_load_mid (by rfl) 177 (.tmp 32) (by rfl) g 0 (by rfl) (unhexV t) (.array 32 5) hrange.out hu177 rfl (by rw [HXL.out]; exact hi177) ?_) | (refine wpList_store_mid (by rfl) 177 (.tmp 2) (.tmp 33) (by rfl) w.heap.size 0 (unhexV t).toArray (by rfl) (by rfl) (by simpa [HXL.out] using hth.out) (by simpa [HXL.out] using hi177) (all_ones _ hones.out) ?_))
      exact HT.out ▸ parse_end_yes hyes.out (by rw [HT.out]; exact HXL.out) H3.out HB1.out hth.out _ _ rfl rfl rfl
    · have hno := Lib.hid (show nameB l = false by rw [HN.out]; simp [h32])
      have hne : (((t.length / 2 : Nat) : Int) != 32) = true := by simp; omega
      have hne2 : ((t.length : Int) / 2 != 32) = true := by simp; omega
      clear hown hrr hlen hb1 hsz H32 hx
      go_wp2_with (refine wpList_store_mid (by rfl) 177 (.tmp 2) (.tmp 29) (by rfl) w.heap.size 0 #[.int .u8 0, .int .u8 0, .int .u8 0, .int .u8 0, .int .u8 0, .int .u8 0, .int .u8 0, .int .u8 0, .int .u8 0, .int .u8 0, .int .u8 0, .int .u8 0, .int .u8 0, .int .u8 0, .int .u8 0, .int .u8 0, .int .u8 0, .int .u8 0, .int .u8 0, .int .u8 0, .int .u8 0, .int .u8 0, .int .u8 0, .int .u8 0, .int .u8 0, .int .u8 0, .int .u8 0, .int .u8 0, .int .u8 0, .int .u8 0, .int .u8 0, .int .u8 0] (by rfl) (by rfl) hth.out hi177 ones32 ?_)
      exact parse_end_no hno.out H3.out HB1.out hth.out _ _ rfl rfl rfl
  · have hth := Lib.hid (there_below H3.out.there (hb1.block _ (by omega)))
    have HB1 := Lib.hid hb1
    have hno := Lib.hid (show nameB l = false by rw [HN.out, hx]; simp)
    clear hb1 hsz H32 hx
    go_wp2_with (refine wpList_store_mid (by rfl) 177 (.tmp 2) (.tmp 29) (by rfl) w.heap.size 0 #[.int .u8 0, .int .u8 0, .int .u8 0, .int .u8 0, .int .u8 0, .int .u8 0, .int .u8 0, .int .u8 0, .int .u8 0, .int .u8 0, .int .u8 0, .int .u8 0, .int .u8 0, .int .u8 0, .int .u8 0, .int .u8 0, .int .u8 0, .int .u8 0, .int .u8 0, .int .u8 0, .int .u8 0, .int .u8 0, .int .u8 0, .int .u8 0, .int .u8 0, .int .u8 0, .int .u8 0, .int .u8 0, .int .u8 0, .int .u8 0, .int .u8 0, .int .u8 0] (by rfl) (by rfl) hth.out hi177 ones32 ?_)
    exact parse_end_no hno.out H3.out HB1.out hth.out _ _ rfl rfl rfl
end Go.Proofs.YtoimjnmhinfbkaaGreatDoor

namespace Go.Proofs.YtoimjnmhinfbkaaGreatDoor
open Go.RowKit
set_option maxRecDepth 100000
theorem dparse_any (l : List UInt8) (w : World) (hl : l.length ≤ 1073741824) : Calls Tryz.prog 108 #[.string ⟨l.toArray⟩] w (ParseRes w l) := by
  cases h : Lib.hasPrefix l shaP with
  | false => exact parse_pre l w hl h
  | true => exact parse_fig l w hl h
/-- as is: in brief. -/
theorem parse_brief (l : List UInt8) (w : World) (hl : l.length ≤ 1073741824) : Calls Tryz.prog 108 #[.string ⟨l.toArray⟩] w fun e w' => (∃ cs : List Value, cs.length = 32 ∧ (∀ v ∈ cs, v.oneCell' = true) ∧ e = .returned (.tuple #[.agg cs.toArray, if nameB l = true then .nilIface else .iface 35 (.int .i64 2)])) ∧ Below w.heap.size w w' :=
  (dparse_any l w hl).mono fun e w' ⟨h, hb⟩ => by
    refine ⟨?_, hb⟩
    rcases h with ⟨h1, h2, h3⟩ | ⟨h1, h2⟩
    · exact ⟨_, h2, unhexV_int _, by rw [h3, h1]; rfl⟩
    · exact ⟨zero32, rfl, byte1, by rw [h2, h1]; rfl⟩
set_option maxHeartbeats 800000 in
theorem is_any (l : List UInt8) (w : World) (hl : l.length ≤ 1073741824) : Calls Tryz.prog 74 #[.string ⟨l.toArray⟩] w fun e w' => e = .returned (.bool (nameB l)) ∧ Below w.heap.size w w' := by
  have HP := Lib.hid (fun W => parse_brief l W hl)
  have HT := Lib.hid (fun W : World => (has32 W).there)
  cases hn : nameB l with
  | false =>
    rw [hn] at HP
    simp only [Bool.false_eq_true, if_false] at HP
    clear hn
    go_enter Tryz.func74, Tryz.ntmps74
    go_wp2_with (first | (go_at_call 108; refine (HP.out _).mono ?_; rintro e w1 ⟨⟨cs, hcs, hone, rfl⟩, hb1⟩; have HC := Lib.hid hcs; have HO := Lib.hid hone; have HB1 := Lib.hid hb1; clear hcs hone hb1) | (refine wpList_store_mid (by rfl) 177 (.tmp 3) (.tmp 8) (by rfl) w1.heap.size 0 cs.toArray (by rfl) (by rfl) (by simpa [HC.out] using HT.out w1) (by simpa [HC.out] using hi177) (all_ones _ HO.out) ?_))
    go_ret
    exact ⟨rfl, setCells_below _ (by have := HB1.out.size; omega) _ _ (HB1.out.alloc (by have := HB1.out.size; omega) _)⟩
  | true =>
    rw [hn] at HP
    simp only [if_true] at HP
    clear hn
    go_enter Tryz.func74, Tryz.ntmps74
    go_wp2_with (first | (go_at_call 108; refine (HP.out _).mono ?_; rintro e w1 ⟨⟨cs, hcs, hone, rfl⟩, hb1⟩; have HC := Lib.hid hcs; have HO := Lib.hid hone; have HB1 := Lib.hid hb1; clear hcs hone hb1) | (refine wpList_store_mid (by rfl) 177 (.tmp 3) (.tmp 8) (by rfl) w1.heap.size 0 cs.toArray (by rfl) (by rfl) (by simpa [HC.out] using HT.out w1) (by simpa [HC.out] using hi177) (all_ones _ HO.out) ?_))
    go_ret
    exact ⟨rfl, setCells_below _ (by have := HB1.out.size; omega) _ _ (HB1.out.alloc (by have := HB1.out.size; omega) _)⟩
end Go.Proofs.YtoimjnmhinfbkaaGreatDoor

namespace Go.Proofs.YtoimjnmhinfbkaaGreatDoor
open Go.RowKit
set_option maxRecDepth 100000
def nMedia : ByteArray := ⟨#[109, 101, 100, 105, 97, 84, 121, 112, 101]⟩
def nDig : ByteArray := ⟨#[100, 105, 103, 101, 115, 116]⟩
def nSize : ByteArray := ⟨#[115, 105, 122, 101]⟩
def nPlat : ByteArray := ⟨#[112, 108, 97, 116, 102, 111, 114, 109]⟩
/-- a descriptor: media, name, size, platform. -/
abbrev DescT := ByteArray × ByteArray × Int × ByteArray × ByteArray × ByteArray
def nameS (s : ByteArray) : Bool := nameB s.data.toList
theorem isref_str (s : ByteArray) (w : World) (hl : s.size ≤ 1073741824) : Calls Tryz.prog 72 #[.string s] w fun e w' => e = .returned (.bool (nameS s)) ∧ w = w' := by
  have := isref_any s.data.toList w (by simpa using hl)
  rw [ba_eta] at this
  exact this.mono fun e w' h => ⟨h.1, h.2.symm⟩
theorem is_str (s : ByteArray) (w : World) (hl : s.size ≤ 1073741824) : Calls Tryz.prog 74 #[.string s] w fun e w' => e = .returned (.bool (nameS s)) ∧ Below w.heap.size w w' := by
  have := is_any s.data.toList w (by simpa using hl)
  rw [ba_eta] at this
  exact this
def platsA (v : V) (p : ByteArray) : Except (Int × ByteArray) (ByteArray × ByteArray × ByteArray) :=
  match v.maybe nPlat with
  | none => .ok ((⟨#[]⟩ : ByteArray), (⟨#[]⟩ : ByteArray), (⟨#[]⟩ : ByteArray))
  | some u => platA u (fieldPlace p nPlat)
def sizeA (v : V) (p : ByteArray) : Except (Int × ByteArray) Int :=
  match fieldA v p nSize with
  | .error b => .error b
  | .ok z => wholeA z (fieldPlace p nSize) 0 1048576
def digA (v : V) (p : ByteArray) : Except (Int × ByteArray) ByteArray :=
  match fieldA v p nDig with
  | .error b => .error b
  | .ok f => match textA f (fieldPlace p nDig) 255 with
    | .error b => .error b
    | .ok d => if nameS d = true then .ok d else .error (2, fieldPlace p nDig)
def takeA (v : V) (p : ByteArray) : Except (Int × ByteArray) DescT :=
  match filledA v p nMedia 255 with
  | .error b => .error b
  | .ok s => match digA v p with
    | .error b => .error b
    | .ok d => match sizeA v p with
      | .error b => .error b
      | .ok q => match platsA v p with
        | .error b => .error b
        | .ok r => .ok (s, d, q, r)
def descE : Except (Int × ByteArray) DescT → DescT
  | .ok r => r
  | .error _ => ((⟨#[]⟩ : ByteArray), (⟨#[]⟩ : ByteArray), 0, (⟨#[]⟩ : ByteArray), (⟨#[]⟩ : ByteArray), (⟨#[]⟩ : ByteArray))
def descV (r : DescT) : Value := .agg #[.string r.1, .string r.2.1, .int .i64 r.2.2.1, .string r.2.2.2.1, .string r.2.2.2.2.1, .string r.2.2.2.2.2]
theorem wholeA_codes {v : V} {p : ByteArray} {l m : Int} {b : Int × ByteArray} (h : wholeA v p l m = .error b) : b.1 ≠ 0 := by
  unfold wholeA at h
  split at h
  · split at h
    · split at h
      · cases h
      · injection h with h; subst h; simp
    · split at h <;> (injection h with h; subst h; simp)
  · injection h with h; subst h; simp
theorem platA_codes {v : V} {p : ByteArray} {b : Int × ByteArray} (h : platA v p = .error b) : b.1 ≠ 0 := by
  unfold platA at h
  split at h
  · rename_i h1; injection h with h; subst h; exact filledA_codes h1
  · split at h
    · rename_i h1; injection h with h; subst h; exact filledA_codes h1
    · split at h
      · rename_i h1; injection h with h; subst h; rw [varA_eq] at h1; exact perhapsA_codes h1
      · cases h
theorem textA_size {u : V} {p s : ByteArray} {m : Int} (h : textA u p m = .ok s) : s = u.text := by
  unfold textA at h
  split at h
  · split at h
    · injection h with h; exact h.symm
    · cases h
  · cases h
end Go.Proofs.YtoimjnmhinfbkaaGreatDoor

namespace Go.Proofs.YtoimjnmhinfbkaaGreatDoor
open Go.RowKit
set_option maxRecDepth 100000
/-- may this platform be? -/
def goodV (ea eo ev ra ro rv : Bool) : Bool := (ea && eo && ev) || (!ea && !eo && ra && ro && rv)
def goodB (a o v : ByteArray) : Bool := goodV a.toList.isEmpty o.toList.isEmpty v.toList.isEmpty (rightB a 64) (rightB o 64) (rightB v 64)
set_option maxHeartbeats 1600000 in
theorem good_any (a o v : ByteArray) (w : World) (hg : Glob w) (la : a.size ≤ 1073741824) (lo : o.size ≤ 1073741824) (lv : v.size ≤ 1073741824) :
    Calls Tryz.prog 84 #[.agg #[.string a, .string o, .string v]] w fun e w' => e = .returned (.bool (goodB a o v)) ∧ Below w.heap.size w w' := by
  have HA := Lib.hid (fun W hW => right_prog a 64 W hW la)
  have HO := Lib.hid (fun W hW => right_prog o 64 W hW lo)
  have HV := Lib.hid (fun W hW => right_prog v 64 W hW lv)
  have HG := Lib.hid hg
  unfold goodB
  generalize rightB a 64 = ra at *
  generalize rightB o 64 = ro at *
  generalize rightB v 64 = rv at *
  clear hg
  cases ha : a.toList.isEmpty <;> cases ho : o.toList.isEmpty <;> cases hv : v.toList.isEmpty
  · -- false false false
    go_enter Tryz.func84, Tryz.ntmps84
    go_wp2_with fail
    refine (HA.out _ (HG.out.below (by ((repeat (first | with_reducible refine Below.setCell ?_ (by first | omega | (simp; done) | (simp; omega)) _ | with_reducible refine Below.drew ?_ | with_reducible refine Below.alloc ?_ (by first | omega | (simp; done) | (simp; omega)) _)); exact Below.refl _ _)))).mono ?_
    rintro e w1 ⟨rfl, hb1⟩
    have HB1 := Lib.hid hb1
    have sz1 := hb1.size
    (try simp at sz1)
    have B1x := Lib.hid (show w1.heap[w.heap.size]? = some (.cells #[.string a, .string o, .string v] 60 (0, 0)) from (hb1.block (w.heap.size) (by first | omega | (simp; done) | (simp; omega))).trans (by (try dsimp only [World.drew]); (repeat (first | rw [alloc_before (by first | omega | (simp; done) | (simp; omega))] | rw [Below.heap_setCell _ _ _ _ (by first | (simp only; omega) | (simp; omega))])); exact alloc_at (by simp)))
    have c1x := fun o => cell_of_row w1 (w.heap.size) o _ 60 (0, 0) B1x.out
    have f1x : ∀ o, w1.frozen? ⟨w.heap.size, o, none⟩ = false := fun o => by simp [World.frozen?, B1x.out]
    have l1x : w.heap.size < w1.heap.size := by first | omega | (simp; omega)
    clear hb1
    cases ra
    · go_wp2
      go_ret
      exact ⟨rfl, (by ((repeat (first | with_reducible refine Below.setCell ?_ (by first | omega | (simp; done) | (simp; omega)) _ | with_reducible refine Below.drew ?_ | with_reducible refine Below.alloc ?_ (by first | omega | (simp; done) | (simp; omega)) _)); refine Below.trans ?_ (HB1.out.mono (by first | omega | (simp; done) | (simp; omega))); (repeat (first | with_reducible refine Below.setCell ?_ (by first | omega | (simp; done) | (simp; omega)) _ | with_reducible refine Below.drew ?_ | with_reducible refine Below.alloc ?_ (by first | omega | (simp; done) | (simp; omega)) _)); exact Below.refl _ _))⟩
    go_wp2_with fail
    refine (HO.out _ (HG.out.below (by ((repeat (first | with_reducible refine Below.setCell ?_ (by first | omega | (simp; done) | (simp; omega)) _ | with_reducible refine Below.drew ?_ | with_reducible refine Below.alloc ?_ (by first | omega | (simp; done) | (simp; omega)) _)); refine Below.trans ?_ (HB1.out.mono (by first | omega | (simp; done) | (simp; omega))); (repeat (first | with_reducible refine Below.setCell ?_ (by first | omega | (simp; done) | (simp; omega)) _ | with_reducible refine Below.drew ?_ | with_reducible refine Below.alloc ?_ (by first | omega | (simp; done) | (simp; omega)) _)); exact Below.refl _ _)))).mono ?_
    rintro e w2 ⟨rfl, hb2⟩
    have HB2 := Lib.hid hb2
    have sz2 := hb2.size
    (try simp at sz2)
    have B2x := Lib.hid (show w2.heap[w.heap.size]? = some (.cells #[.string a, .string o, .string v] 60 (0, 0)) from (hb2.block (w.heap.size) (by first | omega | (simp; done) | (simp; omega))).trans (by (try dsimp only [World.drew]); (repeat (first | rw [alloc_before (by first | omega | (simp; done) | (simp; omega))] | rw [Below.heap_setCell _ _ _ _ (by first | (simp only; omega) | (simp; omega))])); exact B1x.out))
    have c2x := fun o => cell_of_row w2 (w.heap.size) o _ 60 (0, 0) B2x.out
    have f2x : ∀ o, w2.frozen? ⟨w.heap.size, o, none⟩ = false := fun o => by simp [World.frozen?, B2x.out]
    have l2x : w.heap.size < w2.heap.size := by first | omega | (simp; omega)
    clear hb2 c1x f1x
    cases ro
    · go_wp2
      go_ret
      exact ⟨rfl, (by ((repeat (first | with_reducible refine Below.setCell ?_ (by first | omega | (simp; done) | (simp; omega)) _ | with_reducible refine Below.drew ?_ | with_reducible refine Below.alloc ?_ (by first | omega | (simp; done) | (simp; omega)) _)); refine Below.trans ?_ (HB2.out.mono (by first | omega | (simp; done) | (simp; omega))); (repeat (first | with_reducible refine Below.setCell ?_ (by first | omega | (simp; done) | (simp; omega)) _ | with_reducible refine Below.drew ?_ | with_reducible refine Below.alloc ?_ (by first | omega | (simp; done) | (simp; omega)) _)); refine Below.trans ?_ (HB1.out.mono (by first | omega | (simp; done) | (simp; omega))); (repeat (first | with_reducible refine Below.setCell ?_ (by first | omega | (simp; done) | (simp; omega)) _ | with_reducible refine Below.drew ?_ | with_reducible refine Below.alloc ?_ (by first | omega | (simp; done) | (simp; omega)) _)); exact Below.refl _ _))⟩
    go_wp2_with fail
    refine (HV.out _ (HG.out.below (by ((repeat (first | with_reducible refine Below.setCell ?_ (by first | omega | (simp; done) | (simp; omega)) _ | with_reducible refine Below.drew ?_ | with_reducible refine Below.alloc ?_ (by first | omega | (simp; done) | (simp; omega)) _)); refine Below.trans ?_ (HB2.out.mono (by first | omega | (simp; done) | (simp; omega))); (repeat (first | with_reducible refine Below.setCell ?_ (by first | omega | (simp; done) | (simp; omega)) _ | with_reducible refine Below.drew ?_ | with_reducible refine Below.alloc ?_ (by first | omega | (simp; done) | (simp; omega)) _)); refine Below.trans ?_ (HB1.out.mono (by first | omega | (simp; done) | (simp; omega))); (repeat (first | with_reducible refine Below.setCell ?_ (by first | omega | (simp; done) | (simp; omega)) _ | with_reducible refine Below.drew ?_ | with_reducible refine Below.alloc ?_ (by first | omega | (simp; done) | (simp; omega)) _)); exact Below.refl _ _)))).mono ?_
    rintro e w3 ⟨rfl, hb3⟩
    have HB3 := Lib.hid hb3
    have sz3 := hb3.size
    (try simp at sz3)
    have B3x := Lib.hid (show w3.heap[w.heap.size]? = some (.cells #[.string a, .string o, .string v] 60 (0, 0)) from (hb3.block (w.heap.size) (by first | omega | (simp; done) | (simp; omega))).trans (by (try dsimp only [World.drew]); (repeat (first | rw [alloc_before (by first | omega | (simp; done) | (simp; omega))] | rw [Below.heap_setCell _ _ _ _ (by first | (simp only; omega) | (simp; omega))])); exact B2x.out))
    have c3x := fun o => cell_of_row w3 (w.heap.size) o _ 60 (0, 0) B3x.out
    have f3x : ∀ o, w3.frozen? ⟨w.heap.size, o, none⟩ = false := fun o => by simp [World.frozen?, B3x.out]
    have l3x : w.heap.size < w3.heap.size := by first | omega | (simp; omega)
    clear hb3 c2x f2x
    cases rv
    · go_wp2
      go_ret
      exact ⟨rfl, (by ((repeat (first | with_reducible refine Below.setCell ?_ (by first | omega | (simp; done) | (simp; omega)) _ | with_reducible refine Below.drew ?_ | with_reducible refine Below.alloc ?_ (by first | omega | (simp; done) | (simp; omega)) _)); refine Below.trans ?_ (HB3.out.mono (by first | omega | (simp; done) | (simp; omega))); (repeat (first | with_reducible refine Below.setCell ?_ (by first | omega | (simp; done) | (simp; omega)) _ | with_reducible refine Below.drew ?_ | with_reducible refine Below.alloc ?_ (by first | omega | (simp; done) | (simp; omega)) _)); refine Below.trans ?_ (HB2.out.mono (by first | omega | (simp; done) | (simp; omega))); (repeat (first | with_reducible refine Below.setCell ?_ (by first | omega | (simp; done) | (simp; omega)) _ | with_reducible refine Below.drew ?_ | with_reducible refine Below.alloc ?_ (by first | omega | (simp; done) | (simp; omega)) _)); refine Below.trans ?_ (HB1.out.mono (by first | omega | (simp; done) | (simp; omega))); (repeat (first | with_reducible refine Below.setCell ?_ (by first | omega | (simp; done) | (simp; omega)) _ | with_reducible refine Below.drew ?_ | with_reducible refine Below.alloc ?_ (by first | omega | (simp; done) | (simp; omega)) _)); exact Below.refl _ _))⟩
    go_wp2
    go_ret
    exact ⟨rfl, (by ((repeat (first | with_reducible refine Below.setCell ?_ (by first | omega | (simp; done) | (simp; omega)) _ | with_reducible refine Below.drew ?_ | with_reducible refine Below.alloc ?_ (by first | omega | (simp; done) | (simp; omega)) _)); refine Below.trans ?_ (HB3.out.mono (by first | omega | (simp; done) | (simp; omega))); (repeat (first | with_reducible refine Below.setCell ?_ (by first | omega | (simp; done) | (simp; omega)) _ | with_reducible refine Below.drew ?_ | with_reducible refine Below.alloc ?_ (by first | omega | (simp; done) | (simp; omega)) _)); refine Below.trans ?_ (HB2.out.mono (by first | omega | (simp; done) | (simp; omega))); (repeat (first | with_reducible refine Below.setCell ?_ (by first | omega | (simp; done) | (simp; omega)) _ | with_reducible refine Below.drew ?_ | with_reducible refine Below.alloc ?_ (by first | omega | (simp; done) | (simp; omega)) _)); refine Below.trans ?_ (HB1.out.mono (by first | omega | (simp; done) | (simp; omega))); (repeat (first | with_reducible refine Below.setCell ?_ (by first | omega | (simp; done) | (simp; omega)) _ | with_reducible refine Below.drew ?_ | with_reducible refine Below.alloc ?_ (by first | omega | (simp; done) | (simp; omega)) _)); exact Below.refl _ _))⟩
  · -- false false true
    go_enter Tryz.func84, Tryz.ntmps84
    go_wp2_with fail
    refine (HA.out _ (HG.out.below (by ((repeat (first | with_reducible refine Below.setCell ?_ (by first | omega | (simp; done) | (simp; omega)) _ | with_reducible refine Below.drew ?_ | with_reducible refine Below.alloc ?_ (by first | omega | (simp; done) | (simp; omega)) _)); exact Below.refl _ _)))).mono ?_
    rintro e w1 ⟨rfl, hb1⟩
    have HB1 := Lib.hid hb1
    have sz1 := hb1.size
    (try simp at sz1)
    have B1x := Lib.hid (show w1.heap[w.heap.size]? = some (.cells #[.string a, .string o, .string v] 60 (0, 0)) from (hb1.block (w.heap.size) (by first | omega | (simp; done) | (simp; omega))).trans (by (try dsimp only [World.drew]); (repeat (first | rw [alloc_before (by first | omega | (simp; done) | (simp; omega))] | rw [Below.heap_setCell _ _ _ _ (by first | (simp only; omega) | (simp; omega))])); exact alloc_at (by simp)))
    have c1x := fun o => cell_of_row w1 (w.heap.size) o _ 60 (0, 0) B1x.out
    have f1x : ∀ o, w1.frozen? ⟨w.heap.size, o, none⟩ = false := fun o => by simp [World.frozen?, B1x.out]
    have l1x : w.heap.size < w1.heap.size := by first | omega | (simp; omega)
    clear hb1
    cases ra
    · go_wp2
      go_ret
      exact ⟨rfl, (by ((repeat (first | with_reducible refine Below.setCell ?_ (by first | omega | (simp; done) | (simp; omega)) _ | with_reducible refine Below.drew ?_ | with_reducible refine Below.alloc ?_ (by first | omega | (simp; done) | (simp; omega)) _)); refine Below.trans ?_ (HB1.out.mono (by first | omega | (simp; done) | (simp; omega))); (repeat (first | with_reducible refine Below.setCell ?_ (by first | omega | (simp; done) | (simp; omega)) _ | with_reducible refine Below.drew ?_ | with_reducible refine Below.alloc ?_ (by first | omega | (simp; done) | (simp; omega)) _)); exact Below.refl _ _))⟩
    go_wp2_with fail
    refine (HO.out _ (HG.out.below (by ((repeat (first | with_reducible refine Below.setCell ?_ (by first | omega | (simp; done) | (simp; omega)) _ | with_reducible refine Below.drew ?_ | with_reducible refine Below.alloc ?_ (by first | omega | (simp; done) | (simp; omega)) _)); refine Below.trans ?_ (HB1.out.mono (by first | omega | (simp; done) | (simp; omega))); (repeat (first | with_reducible refine Below.setCell ?_ (by first | omega | (simp; done) | (simp; omega)) _ | with_reducible refine Below.drew ?_ | with_reducible refine Below.alloc ?_ (by first | omega | (simp; done) | (simp; omega)) _)); exact Below.refl _ _)))).mono ?_
    rintro e w2 ⟨rfl, hb2⟩
    have HB2 := Lib.hid hb2
    have sz2 := hb2.size
    (try simp at sz2)
    have B2x := Lib.hid (show w2.heap[w.heap.size]? = some (.cells #[.string a, .string o, .string v] 60 (0, 0)) from (hb2.block (w.heap.size) (by first | omega | (simp; done) | (simp; omega))).trans (by (try dsimp only [World.drew]); (repeat (first | rw [alloc_before (by first | omega | (simp; done) | (simp; omega))] | rw [Below.heap_setCell _ _ _ _ (by first | (simp only; omega) | (simp; omega))])); exact B1x.out))
    have c2x := fun o => cell_of_row w2 (w.heap.size) o _ 60 (0, 0) B2x.out
    have f2x : ∀ o, w2.frozen? ⟨w.heap.size, o, none⟩ = false := fun o => by simp [World.frozen?, B2x.out]
    have l2x : w.heap.size < w2.heap.size := by first | omega | (simp; omega)
    clear hb2 c1x f1x
    cases ro
    · go_wp2
      go_ret
      exact ⟨rfl, (by ((repeat (first | with_reducible refine Below.setCell ?_ (by first | omega | (simp; done) | (simp; omega)) _ | with_reducible refine Below.drew ?_ | with_reducible refine Below.alloc ?_ (by first | omega | (simp; done) | (simp; omega)) _)); refine Below.trans ?_ (HB2.out.mono (by first | omega | (simp; done) | (simp; omega))); (repeat (first | with_reducible refine Below.setCell ?_ (by first | omega | (simp; done) | (simp; omega)) _ | with_reducible refine Below.drew ?_ | with_reducible refine Below.alloc ?_ (by first | omega | (simp; done) | (simp; omega)) _)); refine Below.trans ?_ (HB1.out.mono (by first | omega | (simp; done) | (simp; omega))); (repeat (first | with_reducible refine Below.setCell ?_ (by first | omega | (simp; done) | (simp; omega)) _ | with_reducible refine Below.drew ?_ | with_reducible refine Below.alloc ?_ (by first | omega | (simp; done) | (simp; omega)) _)); exact Below.refl _ _))⟩
    go_wp2_with fail
    refine (HV.out _ (HG.out.below (by ((repeat (first | with_reducible refine Below.setCell ?_ (by first | omega | (simp; done) | (simp; omega)) _ | with_reducible refine Below.drew ?_ | with_reducible refine Below.alloc ?_ (by first | omega | (simp; done) | (simp; omega)) _)); refine Below.trans ?_ (HB2.out.mono (by first | omega | (simp; done) | (simp; omega))); (repeat (first | with_reducible refine Below.setCell ?_ (by first | omega | (simp; done) | (simp; omega)) _ | with_reducible refine Below.drew ?_ | with_reducible refine Below.alloc ?_ (by first | omega | (simp; done) | (simp; omega)) _)); refine Below.trans ?_ (HB1.out.mono (by first | omega | (simp; done) | (simp; omega))); (repeat (first | with_reducible refine Below.setCell ?_ (by first | omega | (simp; done) | (simp; omega)) _ | with_reducible refine Below.drew ?_ | with_reducible refine Below.alloc ?_ (by first | omega | (simp; done) | (simp; omega)) _)); exact Below.refl _ _)))).mono ?_
    rintro e w3 ⟨rfl, hb3⟩
    have HB3 := Lib.hid hb3
    have sz3 := hb3.size
    (try simp at sz3)
    have B3x := Lib.hid (show w3.heap[w.heap.size]? = some (.cells #[.string a, .string o, .string v] 60 (0, 0)) from (hb3.block (w.heap.size) (by first | omega | (simp; done) | (simp; omega))).trans (by (try dsimp only [World.drew]); (repeat (first | rw [alloc_before (by first | omega | (simp; done) | (simp; omega))] | rw [Below.heap_setCell _ _ _ _ (by first | (simp only; omega) | (simp; omega))])); exact B2x.out))
    have c3x := fun o => cell_of_row w3 (w.heap.size) o _ 60 (0, 0) B3x.out
    have f3x : ∀ o, w3.frozen? ⟨w.heap.size, o, none⟩ = false := fun o => by simp [World.frozen?, B3x.out]
    have l3x : w.heap.size < w3.heap.size := by first | omega | (simp; omega)
    clear hb3 c2x f2x
    cases rv
    · go_wp2
      go_ret
      exact ⟨rfl, (by ((repeat (first | with_reducible refine Below.setCell ?_ (by first | omega | (simp; done) | (simp; omega)) _ | with_reducible refine Below.drew ?_ | with_reducible refine Below.alloc ?_ (by first | omega | (simp; done) | (simp; omega)) _)); refine Below.trans ?_ (HB3.out.mono (by first | omega | (simp; done) | (simp; omega))); (repeat (first | with_reducible refine Below.setCell ?_ (by first | omega | (simp; done) | (simp; omega)) _ | with_reducible refine Below.drew ?_ | with_reducible refine Below.alloc ?_ (by first | omega | (simp; done) | (simp; omega)) _)); refine Below.trans ?_ (HB2.out.mono (by first | omega | (simp; done) | (simp; omega))); (repeat (first | with_reducible refine Below.setCell ?_ (by first | omega | (simp; done) | (simp; omega)) _ | with_reducible refine Below.drew ?_ | with_reducible refine Below.alloc ?_ (by first | omega | (simp; done) | (simp; omega)) _)); refine Below.trans ?_ (HB1.out.mono (by first | omega | (simp; done) | (simp; omega))); (repeat (first | with_reducible refine Below.setCell ?_ (by first | omega | (simp; done) | (simp; omega)) _ | with_reducible refine Below.drew ?_ | with_reducible refine Below.alloc ?_ (by first | omega | (simp; done) | (simp; omega)) _)); exact Below.refl _ _))⟩
    go_wp2
    go_ret
    exact ⟨rfl, (by ((repeat (first | with_reducible refine Below.setCell ?_ (by first | omega | (simp; done) | (simp; omega)) _ | with_reducible refine Below.drew ?_ | with_reducible refine Below.alloc ?_ (by first | omega | (simp; done) | (simp; omega)) _)); refine Below.trans ?_ (HB3.out.mono (by first | omega | (simp; done) | (simp; omega))); (repeat (first | with_reducible refine Below.setCell ?_ (by first | omega | (simp; done) | (simp; omega)) _ | with_reducible refine Below.drew ?_ | with_reducible refine Below.alloc ?_ (by first | omega | (simp; done) | (simp; omega)) _)); refine Below.trans ?_ (HB2.out.mono (by first | omega | (simp; done) | (simp; omega))); (repeat (first | with_reducible refine Below.setCell ?_ (by first | omega | (simp; done) | (simp; omega)) _ | with_reducible refine Below.drew ?_ | with_reducible refine Below.alloc ?_ (by first | omega | (simp; done) | (simp; omega)) _)); refine Below.trans ?_ (HB1.out.mono (by first | omega | (simp; done) | (simp; omega))); (repeat (first | with_reducible refine Below.setCell ?_ (by first | omega | (simp; done) | (simp; omega)) _ | with_reducible refine Below.drew ?_ | with_reducible refine Below.alloc ?_ (by first | omega | (simp; done) | (simp; omega)) _)); exact Below.refl _ _))⟩
  · -- false true false
    go_enter Tryz.func84, Tryz.ntmps84
    go_wp2
    go_ret
    exact ⟨rfl, (Below.refl _ _).alloc (Nat.le_refl _) _⟩
  · -- false true true
    go_enter Tryz.func84, Tryz.ntmps84
    go_wp2
    go_ret
    exact ⟨rfl, (Below.refl _ _).alloc (Nat.le_refl _) _⟩
  · -- true false false
    go_enter Tryz.func84, Tryz.ntmps84
    go_wp2
    go_ret
    exact ⟨rfl, (Below.refl _ _).alloc (Nat.le_refl _) _⟩
  · -- true false true
    go_enter Tryz.func84, Tryz.ntmps84
    go_wp2
    go_ret
    exact ⟨rfl, (Below.refl _ _).alloc (Nat.le_refl _) _⟩
  · -- true true false
    go_enter Tryz.func84, Tryz.ntmps84
    go_wp2
    go_ret
    exact ⟨rfl, (Below.refl _ _).alloc (Nat.le_refl _) _⟩
  · -- true true true
    go_enter Tryz.func84, Tryz.ntmps84
    go_wp2
    go_ret
    exact ⟨rfl, (Below.refl _ _).alloc (Nat.le_refl _) _⟩
end Go.Proofs.YtoimjnmhinfbkaaGreatDoor

namespace Go.Proofs.YtoimjnmhinfbkaaGreatDoor
open Go.RowKit
set_option maxRecDepth 100000
/-- a descriptor's error. -/
def checkV (em rm g nm : Bool) (z : Int) : Int := if (em || !rm || !g) = true then 9 else if nm = false then 2 else if z < 0 ∨ 1048576 < z then 1 else 0
def checkA (m n : ByteArray) (z : Int) (a o v : ByteArray) : Int := checkV m.toList.isEmpty (rightB m 255) (goodB a o v) (nameS n) z
def errnoV (c : Int) : Value := if c = 0 then .nilIface else .iface 35 (.int .i64 c)
theorem num_any (c : Int) (h : 0 ≤ c) (w : World) : Calls Tryz.prog 35 #[errnoV c] w fun e w' => e = .returned (.int .i64 c) ∧ w = w' := by
  unfold errnoV
  by_cases h0 : c = 0
  · subst h0
    simp only [if_true]
    go_enter Tryz.func35, Tryz.ntmps35
    go_wp2
    go_ret
    exact ⟨rfl, rfl⟩
  · rw [if_neg h0]
    have hta : ∀ w, (Instr.typeAssert (.iface 35 (.int .i64 c)) 29 35 true).run Tryz.prog w = .ok (.tuple #[.int .i64 c, .bool true]) w := fun _ => by kernel_rfl
    have hc : (c != 0) = true := by simpa using h0
    clear h0
    go_enter Tryz.func35, Tryz.ntmps35
    go_wp2
    go_ret
    exact ⟨rfl, rfl⟩
set_option maxHeartbeats 1600000 in
theorem check_any (m n : ByteArray) (z : Int) (a o v : ByteArray) (w : World) (hg : Glob w) (lm : m.size ≤ 1073741824) (ln : n.size ≤ 1073741824) (la : a.size ≤ 1073741824) (lo : o.size ≤ 1073741824) (lv : v.size ≤ 1073741824) :
    Calls Tryz.prog 36 #[.agg #[.string m, .string n, .int .i64 z, .string a, .string o, .string v]] w fun e w' => e = .returned (errnoV (checkA m n z a o v)) ∧ Below w.heap.size w w' := by
  have HM := Lib.hid (fun W hW => right_prog m 255 W hW lm)
  have HGD := Lib.hid (fun W hW => good_any a o v W hW la lo lv)
  have HN := Lib.hid (fun W => is_str n W ln)
  have HG := Lib.hid hg
  unfold checkA
  generalize rightB m 255 = rm at *
  generalize goodB a o v = gd at *
  generalize nameS n = nm at *
  clear hg
  cases em : m.toList.isEmpty
  · -- a media type
    go_enter Tryz.func36, Tryz.ntmps36
    go_wp2_with fail
    refine (HM.out _ (HG.out.below (by ((repeat (first | with_reducible refine Below.setCell ?_ (by first | omega | (simp; done) | (simp; omega)) _ | with_reducible refine Below.drew ?_ | with_reducible refine Below.alloc ?_ (by first | omega | (simp; done) | (simp; omega)) _)); exact Below.refl _ _)))).mono ?_
    rintro e w1 ⟨rfl, hb1⟩
    have HB1 := Lib.hid hb1
    have sz1 := hb1.size
    (try simp at sz1)
    have B1x := Lib.hid (show w1.heap[w.heap.size]? = some (.cells #[.string m, .string n, .int .i64 z, .string a, .string o, .string v] 62 (0, 0)) from (hb1.block (w.heap.size) (by first | omega | (simp; done) | (simp; omega))).trans (by (try dsimp only [World.drew]); (repeat (first | rw [alloc_before (by first | omega | (simp; done) | (simp; omega))] | rw [Below.heap_setCell _ _ _ _ (by first | (simp only; omega) | (simp; omega))])); exact alloc_at (by simp)))
    have c1x := fun o => cell_of_row w1 (w.heap.size) o _ 62 (0, 0) B1x.out
    have f1x : ∀ o, w1.frozen? ⟨w.heap.size, o, none⟩ = false := fun o => by simp [World.frozen?, B1x.out]
    have l1x : w.heap.size < w1.heap.size := by first | omega | (simp; omega)
    clear hb1
    cases rm
    · go_wp2
      go_ret
      exact ⟨rfl, (by ((repeat (first | with_reducible refine Below.setCell ?_ (by first | omega | (simp; done) | (simp; omega)) _ | with_reducible refine Below.drew ?_ | with_reducible refine Below.alloc ?_ (by first | omega | (simp; done) | (simp; omega)) _)); refine Below.trans ?_ (HB1.out.mono (by first | omega | (simp; done) | (simp; omega))); (repeat (first | with_reducible refine Below.setCell ?_ (by first | omega | (simp; done) | (simp; omega)) _ | with_reducible refine Below.drew ?_ | with_reducible refine Below.alloc ?_ (by first | omega | (simp; done) | (simp; omega)) _)); exact Below.refl _ _))⟩
    go_wp2_with fail
    refine (HGD.out _ (HG.out.below (by ((repeat (first | with_reducible refine Below.setCell ?_ (by first | omega | (simp; done) | (simp; omega)) _ | with_reducible refine Below.drew ?_ | with_reducible refine Below.alloc ?_ (by first | omega | (simp; done) | (simp; omega)) _)); refine Below.trans ?_ (HB1.out.mono (by first | omega | (simp; done) | (simp; omega))); (repeat (first | with_reducible refine Below.setCell ?_ (by first | omega | (simp; done) | (simp; omega)) _ | with_reducible refine Below.drew ?_ | with_reducible refine Below.alloc ?_ (by first | omega | (simp; done) | (simp; omega)) _)); exact Below.refl _ _)))).mono ?_
    rintro e w2 ⟨rfl, hb2⟩
    have HB2 := Lib.hid hb2
    have sz2 := hb2.size
    (try simp at sz2)
    have B2x := Lib.hid (show w2.heap[w.heap.size]? = some (.cells #[.string m, .string n, .int .i64 z, .string a, .string o, .string v] 62 (0, 0)) from (hb2.block (w.heap.size) (by first | omega | (simp; done) | (simp; omega))).trans (by (try dsimp only [World.drew]); (repeat (first | rw [alloc_before (by first | omega | (simp; done) | (simp; omega))] | rw [Below.heap_setCell _ _ _ _ (by first | (simp only; omega) | (simp; omega))])); exact B1x.out))
    have c2x := fun o => cell_of_row w2 (w.heap.size) o _ 62 (0, 0) B2x.out
    have f2x : ∀ o, w2.frozen? ⟨w.heap.size, o, none⟩ = false := fun o => by simp [World.frozen?, B2x.out]
    have l2x : w.heap.size < w2.heap.size := by first | omega | (simp; omega)
    clear hb2 c1x f1x
    cases gd
    · go_wp2
      go_ret
      exact ⟨rfl, (by ((repeat (first | with_reducible refine Below.setCell ?_ (by first | omega | (simp; done) | (simp; omega)) _ | with_reducible refine Below.drew ?_ | with_reducible refine Below.alloc ?_ (by first | omega | (simp; done) | (simp; omega)) _)); refine Below.trans ?_ (HB2.out.mono (by first | omega | (simp; done) | (simp; omega))); (repeat (first | with_reducible refine Below.setCell ?_ (by first | omega | (simp; done) | (simp; omega)) _ | with_reducible refine Below.drew ?_ | with_reducible refine Below.alloc ?_ (by first | omega | (simp; done) | (simp; omega)) _)); refine Below.trans ?_ (HB1.out.mono (by first | omega | (simp; done) | (simp; omega))); (repeat (first | with_reducible refine Below.setCell ?_ (by first | omega | (simp; done) | (simp; omega)) _ | with_reducible refine Below.drew ?_ | with_reducible refine Below.alloc ?_ (by first | omega | (simp; done) | (simp; omega)) _)); exact Below.refl _ _))⟩
    go_wp2_with fail
    refine (HN.out _).mono ?_
    rintro e w3 ⟨rfl, hb3⟩
    have HB3 := Lib.hid hb3
    have sz3 := hb3.size
    (try simp at sz3)
    have B3x := Lib.hid (show w3.heap[w.heap.size]? = some (.cells #[.string m, .string n, .int .i64 z, .string a, .string o, .string v] 62 (0, 0)) from (hb3.block (w.heap.size) (by first | omega | (simp; done) | (simp; omega))).trans (by (try dsimp only [World.drew]); (repeat (first | rw [alloc_before (by first | omega | (simp; done) | (simp; omega))] | rw [Below.heap_setCell _ _ _ _ (by first | (simp only; omega) | (simp; omega))])); exact B2x.out))
    have c3x := fun o => cell_of_row w3 (w.heap.size) o _ 62 (0, 0) B3x.out
    have f3x : ∀ o, w3.frozen? ⟨w.heap.size, o, none⟩ = false := fun o => by simp [World.frozen?, B3x.out]
    have l3x : w.heap.size < w3.heap.size := by first | omega | (simp; omega)
    clear hb3 c2x f2x
    cases nm
    · go_wp2
      go_ret
      exact ⟨rfl, (by ((repeat (first | with_reducible refine Below.setCell ?_ (by first | omega | (simp; done) | (simp; omega)) _ | with_reducible refine Below.drew ?_ | with_reducible refine Below.alloc ?_ (by first | omega | (simp; done) | (simp; omega)) _)); refine Below.trans ?_ (HB3.out.mono (by first | omega | (simp; done) | (simp; omega))); (repeat (first | with_reducible refine Below.setCell ?_ (by first | omega | (simp; done) | (simp; omega)) _ | with_reducible refine Below.drew ?_ | with_reducible refine Below.alloc ?_ (by first | omega | (simp; done) | (simp; omega)) _)); refine Below.trans ?_ (HB2.out.mono (by first | omega | (simp; done) | (simp; omega))); (repeat (first | with_reducible refine Below.setCell ?_ (by first | omega | (simp; done) | (simp; omega)) _ | with_reducible refine Below.drew ?_ | with_reducible refine Below.alloc ?_ (by first | omega | (simp; done) | (simp; omega)) _)); refine Below.trans ?_ (HB1.out.mono (by first | omega | (simp; done) | (simp; omega))); (repeat (first | with_reducible refine Below.setCell ?_ (by first | omega | (simp; done) | (simp; omega)) _ | with_reducible refine Below.drew ?_ | with_reducible refine Below.alloc ?_ (by first | omega | (simp; done) | (simp; omega)) _)); exact Below.refl _ _))⟩
    by_cases z1 : z < 0
    · have hz := Lib.hid (show checkV false true true true z = 1 by simp [checkV, z1])
      go_wp2
      go_ret
      exact ⟨by rw [hz.out]; rfl, (by ((repeat (first | with_reducible refine Below.setCell ?_ (by first | omega | (simp; done) | (simp; omega)) _ | with_reducible refine Below.drew ?_ | with_reducible refine Below.alloc ?_ (by first | omega | (simp; done) | (simp; omega)) _)); refine Below.trans ?_ (HB3.out.mono (by first | omega | (simp; done) | (simp; omega))); (repeat (first | with_reducible refine Below.setCell ?_ (by first | omega | (simp; done) | (simp; omega)) _ | with_reducible refine Below.drew ?_ | with_reducible refine Below.alloc ?_ (by first | omega | (simp; done) | (simp; omega)) _)); refine Below.trans ?_ (HB2.out.mono (by first | omega | (simp; done) | (simp; omega))); (repeat (first | with_reducible refine Below.setCell ?_ (by first | omega | (simp; done) | (simp; omega)) _ | with_reducible refine Below.drew ?_ | with_reducible refine Below.alloc ?_ (by first | omega | (simp; done) | (simp; omega)) _)); refine Below.trans ?_ (HB1.out.mono (by first | omega | (simp; done) | (simp; omega))); (repeat (first | with_reducible refine Below.setCell ?_ (by first | omega | (simp; done) | (simp; omega)) _ | with_reducible refine Below.drew ?_ | with_reducible refine Below.alloc ?_ (by first | omega | (simp; done) | (simp; omega)) _)); exact Below.refl _ _))⟩
    by_cases z2 : 1048576 < z
    · have hz := Lib.hid (show checkV false true true true z = 1 by simp [checkV, z2])
      go_wp2
      go_ret
      exact ⟨by rw [hz.out]; rfl, (by ((repeat (first | with_reducible refine Below.setCell ?_ (by first | omega | (simp; done) | (simp; omega)) _ | with_reducible refine Below.drew ?_ | with_reducible refine Below.alloc ?_ (by first | omega | (simp; done) | (simp; omega)) _)); refine Below.trans ?_ (HB3.out.mono (by first | omega | (simp; done) | (simp; omega))); (repeat (first | with_reducible refine Below.setCell ?_ (by first | omega | (simp; done) | (simp; omega)) _ | with_reducible refine Below.drew ?_ | with_reducible refine Below.alloc ?_ (by first | omega | (simp; done) | (simp; omega)) _)); refine Below.trans ?_ (HB2.out.mono (by first | omega | (simp; done) | (simp; omega))); (repeat (first | with_reducible refine Below.setCell ?_ (by first | omega | (simp; done) | (simp; omega)) _ | with_reducible refine Below.drew ?_ | with_reducible refine Below.alloc ?_ (by first | omega | (simp; done) | (simp; omega)) _)); refine Below.trans ?_ (HB1.out.mono (by first | omega | (simp; done) | (simp; omega))); (repeat (first | with_reducible refine Below.setCell ?_ (by first | omega | (simp; done) | (simp; omega)) _ | with_reducible refine Below.drew ?_ | with_reducible refine Below.alloc ?_ (by first | omega | (simp; done) | (simp; omega)) _)); exact Below.refl _ _))⟩
    have hz := Lib.hid (show checkV false true true true z = 0 by simp [checkV, z1, z2])
    go_wp2
    go_ret
    exact ⟨by rw [hz.out]; rfl, (by ((repeat (first | with_reducible refine Below.setCell ?_ (by first | omega | (simp; done) | (simp; omega)) _ | with_reducible refine Below.drew ?_ | with_reducible refine Below.alloc ?_ (by first | omega | (simp; done) | (simp; omega)) _)); refine Below.trans ?_ (HB3.out.mono (by first | omega | (simp; done) | (simp; omega))); (repeat (first | with_reducible refine Below.setCell ?_ (by first | omega | (simp; done) | (simp; omega)) _ | with_reducible refine Below.drew ?_ | with_reducible refine Below.alloc ?_ (by first | omega | (simp; done) | (simp; omega)) _)); refine Below.trans ?_ (HB2.out.mono (by first | omega | (simp; done) | (simp; omega))); (repeat (first | with_reducible refine Below.setCell ?_ (by first | omega | (simp; done) | (simp; omega)) _ | with_reducible refine Below.drew ?_ | with_reducible refine Below.alloc ?_ (by first | omega | (simp; done) | (simp; omega)) _)); refine Below.trans ?_ (HB1.out.mono (by first | omega | (simp; done) | (simp; omega))); (repeat (first | with_reducible refine Below.setCell ?_ (by first | omega | (simp; done) | (simp; omega)) _ | with_reducible refine Below.drew ?_ | with_reducible refine Below.alloc ?_ (by first | omega | (simp; done) | (simp; omega)) _)); exact Below.refl _ _))⟩
  · go_enter Tryz.func36, Tryz.ntmps36
    go_wp2
    go_ret
    exact ⟨rfl, (Below.refl _ _).alloc (Nat.le_refl _) _⟩
set_option maxHeartbeats 6400000 in
theorem check_ref (m n : ByteArray) (z : Int) (a o v : ByteArray) (w : World) (lm : m.size ≤ 1073741824) (ln : n.size ≤ 1073741824) (la : a.size ≤ 1073741824) (lo : o.size ≤ 1073741824) (lv : v.size ≤ 1073741824) :
    Calls Tryz.prog 79 #[.agg #[.string m, .string n, .int .i64 z, .string a, .string o, .string v]] w fun e w' => e = .returned (.int .i64 (checkA m n z a o v)) ∧ Below w.heap.size w w' := by
  have HM := Lib.hid (fun W => right_ref m 255 W lm)
  have HA := Lib.hid (fun W => right_ref a 64 W la)
  have HO := Lib.hid (fun W => right_ref o 64 W lo)
  have HV := Lib.hid (fun W => right_ref v 64 W lv)
  have HN := Lib.hid (fun W => isref_str n W ln)
  unfold checkA goodB
  generalize rightB m 255 = rm at *
  generalize rightB a 64 = ra at *
  generalize rightB o 64 = ro at *
  generalize rightB v 64 = rv at *
  generalize nameS n = nm at *
  cases em : m.toList.isEmpty
  case true =>
    go_enter Tryz.func79, Tryz.ntmps79
    go_wp2_with fail
    go_ret
    exact ⟨rfl, ((Below.refl _ _).alloc (Nat.le_refl _) _).alloc (by simp) _⟩
  cases rm
  · go_enter Tryz.func79, Tryz.ntmps79
    go_wp2_with (first | (go_at_call 110; (with_reducible refine (HM.out _).mono ?_); rintro e w1 ⟨rfl, rfl⟩) | (go_at_call 110; (with_reducible refine (HA.out _).mono ?_); rintro e w1 ⟨rfl, rfl⟩) | (go_at_call 110; (with_reducible refine (HO.out _).mono ?_); rintro e w1 ⟨rfl, rfl⟩) | (go_at_call 110; (with_reducible refine (HV.out _).mono ?_); rintro e w1 ⟨rfl, rfl⟩) | (go_at_call 72; refine (HN.out _).mono ?_; rintro e w1 ⟨rfl, rfl⟩))
    go_ret
    exact ⟨rfl, ((Below.refl _ _).alloc (Nat.le_refl _) _).alloc (by simp) _⟩
  have hfin : ∀ g, g = true → (nm = false → checkV false true g nm z = 2) ∧ (nm = true → (z < 0 → checkV false true g nm z = 1) ∧ (1048576 < z → checkV false true g nm z = 1) ∧ (¬ z < 0 → ¬ 1048576 < z → checkV false true g nm z = 0)) := fun g hg => by
    subst hg
    refine ⟨fun h => by subst h; rfl, fun h => ?_⟩
    subst h
    refine ⟨fun h => by simp [checkV, h], fun h => by simp [checkV, h], fun h h' => by simp [checkV, h, h']⟩
  cases ea : a.toList.isEmpty <;> cases eo : o.toList.isEmpty <;> cases ev : v.toList.isEmpty
  · cases ra
    · clear hfin
      go_enter Tryz.func79, Tryz.ntmps79
      go_wp2_with (first | (go_at_call 110; (with_reducible refine (HM.out _).mono ?_); rintro e w1 ⟨rfl, rfl⟩) | (go_at_call 110; (with_reducible refine (HA.out _).mono ?_); rintro e w1 ⟨rfl, rfl⟩) | (go_at_call 110; (with_reducible refine (HO.out _).mono ?_); rintro e w1 ⟨rfl, rfl⟩) | (go_at_call 110; (with_reducible refine (HV.out _).mono ?_); rintro e w1 ⟨rfl, rfl⟩) | (go_at_call 72; refine (HN.out _).mono ?_; rintro e w1 ⟨rfl, rfl⟩))
      go_ret
      exact ⟨rfl, ((Below.refl _ _).alloc (Nat.le_refl _) _).alloc (by simp) _⟩
    cases ro
    · clear hfin
      go_enter Tryz.func79, Tryz.ntmps79
      go_wp2_with (first | (go_at_call 110; (with_reducible refine (HM.out _).mono ?_); rintro e w1 ⟨rfl, rfl⟩) | (go_at_call 110; (with_reducible refine (HA.out _).mono ?_); rintro e w1 ⟨rfl, rfl⟩) | (go_at_call 110; (with_reducible refine (HO.out _).mono ?_); rintro e w1 ⟨rfl, rfl⟩) | (go_at_call 110; (with_reducible refine (HV.out _).mono ?_); rintro e w1 ⟨rfl, rfl⟩) | (go_at_call 72; refine (HN.out _).mono ?_; rintro e w1 ⟨rfl, rfl⟩))
      go_ret
      exact ⟨rfl, ((Below.refl _ _).alloc (Nat.le_refl _) _).alloc (by simp) _⟩
    cases rv
    · clear hfin
      go_enter Tryz.func79, Tryz.ntmps79
      go_wp2_with (first | (go_at_call 110; (with_reducible refine (HM.out _).mono ?_); rintro e w1 ⟨rfl, rfl⟩) | (go_at_call 110; (with_reducible refine (HA.out _).mono ?_); rintro e w1 ⟨rfl, rfl⟩) | (go_at_call 110; (with_reducible refine (HO.out _).mono ?_); rintro e w1 ⟨rfl, rfl⟩) | (go_at_call 110; (with_reducible refine (HV.out _).mono ?_); rintro e w1 ⟨rfl, rfl⟩) | (go_at_call 72; refine (HN.out _).mono ?_; rintro e w1 ⟨rfl, rfl⟩))
      go_ret
      exact ⟨rfl, ((Below.refl _ _).alloc (Nat.le_refl _) _).alloc (by simp) _⟩
    cases nm
    · have hz := Lib.hid ((hfin _ rfl).1 rfl)
      clear hfin
      go_enter Tryz.func79, Tryz.ntmps79
      go_wp2_with (first | (go_at_call 110; (with_reducible refine (HM.out _).mono ?_); rintro e w1 ⟨rfl, rfl⟩) | (go_at_call 110; (with_reducible refine (HA.out _).mono ?_); rintro e w1 ⟨rfl, rfl⟩) | (go_at_call 110; (with_reducible refine (HO.out _).mono ?_); rintro e w1 ⟨rfl, rfl⟩) | (go_at_call 110; (with_reducible refine (HV.out _).mono ?_); rintro e w1 ⟨rfl, rfl⟩) | (go_at_call 72; refine (HN.out _).mono ?_; rintro e w1 ⟨rfl, rfl⟩))
      go_ret
      exact ⟨by rw [show checkV false true (goodV false false false true true true) false z = 2 from hz.out]; rfl, ((Below.refl _ _).alloc (Nat.le_refl _) _).alloc (by simp) _⟩
    by_cases z1 : z < 0
    · have hz := Lib.hid (((hfin _ rfl).2 rfl).1 z1)
      clear hfin
      go_enter Tryz.func79, Tryz.ntmps79
      go_wp2_with (first | (go_at_call 110; (with_reducible refine (HM.out _).mono ?_); rintro e w1 ⟨rfl, rfl⟩) | (go_at_call 110; (with_reducible refine (HA.out _).mono ?_); rintro e w1 ⟨rfl, rfl⟩) | (go_at_call 110; (with_reducible refine (HO.out _).mono ?_); rintro e w1 ⟨rfl, rfl⟩) | (go_at_call 110; (with_reducible refine (HV.out _).mono ?_); rintro e w1 ⟨rfl, rfl⟩) | (go_at_call 72; refine (HN.out _).mono ?_; rintro e w1 ⟨rfl, rfl⟩))
      go_ret
      exact ⟨by rw [show checkV false true (goodV false false false true true true) true z = 1 from hz.out]; rfl, ((Below.refl _ _).alloc (Nat.le_refl _) _).alloc (by simp) _⟩
    by_cases z2 : 1048576 < z
    · have hz := Lib.hid (((hfin _ rfl).2 rfl).2.1 z2)
      clear hfin
      go_enter Tryz.func79, Tryz.ntmps79
      go_wp2_with (first | (go_at_call 110; (with_reducible refine (HM.out _).mono ?_); rintro e w1 ⟨rfl, rfl⟩) | (go_at_call 110; (with_reducible refine (HA.out _).mono ?_); rintro e w1 ⟨rfl, rfl⟩) | (go_at_call 110; (with_reducible refine (HO.out _).mono ?_); rintro e w1 ⟨rfl, rfl⟩) | (go_at_call 110; (with_reducible refine (HV.out _).mono ?_); rintro e w1 ⟨rfl, rfl⟩) | (go_at_call 72; refine (HN.out _).mono ?_; rintro e w1 ⟨rfl, rfl⟩))
      go_ret
      exact ⟨by rw [show checkV false true (goodV false false false true true true) true z = 1 from hz.out]; rfl, ((Below.refl _ _).alloc (Nat.le_refl _) _).alloc (by simp) _⟩
    have hz := Lib.hid (((hfin _ rfl).2 rfl).2.2 z1 z2)
    clear hfin
    go_enter Tryz.func79, Tryz.ntmps79
    go_wp2_with (first | (go_at_call 110; (with_reducible refine (HM.out _).mono ?_); rintro e w1 ⟨rfl, rfl⟩) | (go_at_call 110; (with_reducible refine (HA.out _).mono ?_); rintro e w1 ⟨rfl, rfl⟩) | (go_at_call 110; (with_reducible refine (HO.out _).mono ?_); rintro e w1 ⟨rfl, rfl⟩) | (go_at_call 110; (with_reducible refine (HV.out _).mono ?_); rintro e w1 ⟨rfl, rfl⟩) | (go_at_call 72; refine (HN.out _).mono ?_; rintro e w1 ⟨rfl, rfl⟩))
    go_ret
    exact ⟨by rw [show checkV false true (goodV false false false true true true) true z = 0 from hz.out]; rfl, ((Below.refl _ _).alloc (Nat.le_refl _) _).alloc (by simp) _⟩
  · cases ra
    · clear hfin
      go_enter Tryz.func79, Tryz.ntmps79
      go_wp2_with (first | (go_at_call 110; (with_reducible refine (HM.out _).mono ?_); rintro e w1 ⟨rfl, rfl⟩) | (go_at_call 110; (with_reducible refine (HA.out _).mono ?_); rintro e w1 ⟨rfl, rfl⟩) | (go_at_call 110; (with_reducible refine (HO.out _).mono ?_); rintro e w1 ⟨rfl, rfl⟩) | (go_at_call 110; (with_reducible refine (HV.out _).mono ?_); rintro e w1 ⟨rfl, rfl⟩) | (go_at_call 72; refine (HN.out _).mono ?_; rintro e w1 ⟨rfl, rfl⟩))
      go_ret
      exact ⟨rfl, ((Below.refl _ _).alloc (Nat.le_refl _) _).alloc (by simp) _⟩
    cases ro
    · clear hfin
      go_enter Tryz.func79, Tryz.ntmps79
      go_wp2_with (first | (go_at_call 110; (with_reducible refine (HM.out _).mono ?_); rintro e w1 ⟨rfl, rfl⟩) | (go_at_call 110; (with_reducible refine (HA.out _).mono ?_); rintro e w1 ⟨rfl, rfl⟩) | (go_at_call 110; (with_reducible refine (HO.out _).mono ?_); rintro e w1 ⟨rfl, rfl⟩) | (go_at_call 110; (with_reducible refine (HV.out _).mono ?_); rintro e w1 ⟨rfl, rfl⟩) | (go_at_call 72; refine (HN.out _).mono ?_; rintro e w1 ⟨rfl, rfl⟩))
      go_ret
      exact ⟨rfl, ((Below.refl _ _).alloc (Nat.le_refl _) _).alloc (by simp) _⟩
    cases rv
    · clear hfin
      go_enter Tryz.func79, Tryz.ntmps79
      go_wp2_with (first | (go_at_call 110; (with_reducible refine (HM.out _).mono ?_); rintro e w1 ⟨rfl, rfl⟩) | (go_at_call 110; (with_reducible refine (HA.out _).mono ?_); rintro e w1 ⟨rfl, rfl⟩) | (go_at_call 110; (with_reducible refine (HO.out _).mono ?_); rintro e w1 ⟨rfl, rfl⟩) | (go_at_call 110; (with_reducible refine (HV.out _).mono ?_); rintro e w1 ⟨rfl, rfl⟩) | (go_at_call 72; refine (HN.out _).mono ?_; rintro e w1 ⟨rfl, rfl⟩))
      go_ret
      exact ⟨rfl, ((Below.refl _ _).alloc (Nat.le_refl _) _).alloc (by simp) _⟩
    cases nm
    · have hz := Lib.hid ((hfin _ rfl).1 rfl)
      clear hfin
      go_enter Tryz.func79, Tryz.ntmps79
      go_wp2_with (first | (go_at_call 110; (with_reducible refine (HM.out _).mono ?_); rintro e w1 ⟨rfl, rfl⟩) | (go_at_call 110; (with_reducible refine (HA.out _).mono ?_); rintro e w1 ⟨rfl, rfl⟩) | (go_at_call 110; (with_reducible refine (HO.out _).mono ?_); rintro e w1 ⟨rfl, rfl⟩) | (go_at_call 110; (with_reducible refine (HV.out _).mono ?_); rintro e w1 ⟨rfl, rfl⟩) | (go_at_call 72; refine (HN.out _).mono ?_; rintro e w1 ⟨rfl, rfl⟩))
      go_ret
      exact ⟨by rw [show checkV false true (goodV false false true true true true) false z = 2 from hz.out]; rfl, ((Below.refl _ _).alloc (Nat.le_refl _) _).alloc (by simp) _⟩
    by_cases z1 : z < 0
    · have hz := Lib.hid (((hfin _ rfl).2 rfl).1 z1)
      clear hfin
      go_enter Tryz.func79, Tryz.ntmps79
      go_wp2_with (first | (go_at_call 110; (with_reducible refine (HM.out _).mono ?_); rintro e w1 ⟨rfl, rfl⟩) | (go_at_call 110; (with_reducible refine (HA.out _).mono ?_); rintro e w1 ⟨rfl, rfl⟩) | (go_at_call 110; (with_reducible refine (HO.out _).mono ?_); rintro e w1 ⟨rfl, rfl⟩) | (go_at_call 110; (with_reducible refine (HV.out _).mono ?_); rintro e w1 ⟨rfl, rfl⟩) | (go_at_call 72; refine (HN.out _).mono ?_; rintro e w1 ⟨rfl, rfl⟩))
      go_ret
      exact ⟨by rw [show checkV false true (goodV false false true true true true) true z = 1 from hz.out]; rfl, ((Below.refl _ _).alloc (Nat.le_refl _) _).alloc (by simp) _⟩
    by_cases z2 : 1048576 < z
    · have hz := Lib.hid (((hfin _ rfl).2 rfl).2.1 z2)
      clear hfin
      go_enter Tryz.func79, Tryz.ntmps79
      go_wp2_with (first | (go_at_call 110; (with_reducible refine (HM.out _).mono ?_); rintro e w1 ⟨rfl, rfl⟩) | (go_at_call 110; (with_reducible refine (HA.out _).mono ?_); rintro e w1 ⟨rfl, rfl⟩) | (go_at_call 110; (with_reducible refine (HO.out _).mono ?_); rintro e w1 ⟨rfl, rfl⟩) | (go_at_call 110; (with_reducible refine (HV.out _).mono ?_); rintro e w1 ⟨rfl, rfl⟩) | (go_at_call 72; refine (HN.out _).mono ?_; rintro e w1 ⟨rfl, rfl⟩))
      go_ret
      exact ⟨by rw [show checkV false true (goodV false false true true true true) true z = 1 from hz.out]; rfl, ((Below.refl _ _).alloc (Nat.le_refl _) _).alloc (by simp) _⟩
    have hz := Lib.hid (((hfin _ rfl).2 rfl).2.2 z1 z2)
    clear hfin
    go_enter Tryz.func79, Tryz.ntmps79
    go_wp2_with (first | (go_at_call 110; (with_reducible refine (HM.out _).mono ?_); rintro e w1 ⟨rfl, rfl⟩) | (go_at_call 110; (with_reducible refine (HA.out _).mono ?_); rintro e w1 ⟨rfl, rfl⟩) | (go_at_call 110; (with_reducible refine (HO.out _).mono ?_); rintro e w1 ⟨rfl, rfl⟩) | (go_at_call 110; (with_reducible refine (HV.out _).mono ?_); rintro e w1 ⟨rfl, rfl⟩) | (go_at_call 72; refine (HN.out _).mono ?_; rintro e w1 ⟨rfl, rfl⟩))
    go_ret
    exact ⟨by rw [show checkV false true (goodV false false true true true true) true z = 0 from hz.out]; rfl, ((Below.refl _ _).alloc (Nat.le_refl _) _).alloc (by simp) _⟩
  · clear hfin
    go_enter Tryz.func79, Tryz.ntmps79
    go_wp2_with (first | (go_at_call 110; (with_reducible refine (HM.out _).mono ?_); rintro e w1 ⟨rfl, rfl⟩) | (go_at_call 110; (with_reducible refine (HA.out _).mono ?_); rintro e w1 ⟨rfl, rfl⟩) | (go_at_call 110; (with_reducible refine (HO.out _).mono ?_); rintro e w1 ⟨rfl, rfl⟩) | (go_at_call 110; (with_reducible refine (HV.out _).mono ?_); rintro e w1 ⟨rfl, rfl⟩) | (go_at_call 72; refine (HN.out _).mono ?_; rintro e w1 ⟨rfl, rfl⟩))
    go_ret
    exact ⟨rfl, ((Below.refl _ _).alloc (Nat.le_refl _) _).alloc (by simp) _⟩
  · clear hfin
    go_enter Tryz.func79, Tryz.ntmps79
    go_wp2_with (first | (go_at_call 110; (with_reducible refine (HM.out _).mono ?_); rintro e w1 ⟨rfl, rfl⟩) | (go_at_call 110; (with_reducible refine (HA.out _).mono ?_); rintro e w1 ⟨rfl, rfl⟩) | (go_at_call 110; (with_reducible refine (HO.out _).mono ?_); rintro e w1 ⟨rfl, rfl⟩) | (go_at_call 110; (with_reducible refine (HV.out _).mono ?_); rintro e w1 ⟨rfl, rfl⟩) | (go_at_call 72; refine (HN.out _).mono ?_; rintro e w1 ⟨rfl, rfl⟩))
    go_ret
    exact ⟨rfl, ((Below.refl _ _).alloc (Nat.le_refl _) _).alloc (by simp) _⟩
  · clear hfin
    go_enter Tryz.func79, Tryz.ntmps79
    go_wp2_with (first | (go_at_call 110; (with_reducible refine (HM.out _).mono ?_); rintro e w1 ⟨rfl, rfl⟩) | (go_at_call 110; (with_reducible refine (HA.out _).mono ?_); rintro e w1 ⟨rfl, rfl⟩) | (go_at_call 110; (with_reducible refine (HO.out _).mono ?_); rintro e w1 ⟨rfl, rfl⟩) | (go_at_call 110; (with_reducible refine (HV.out _).mono ?_); rintro e w1 ⟨rfl, rfl⟩) | (go_at_call 72; refine (HN.out _).mono ?_; rintro e w1 ⟨rfl, rfl⟩))
    go_ret
    exact ⟨rfl, ((Below.refl _ _).alloc (Nat.le_refl _) _).alloc (by simp) _⟩
  · clear hfin
    go_enter Tryz.func79, Tryz.ntmps79
    go_wp2_with (first | (go_at_call 110; (with_reducible refine (HM.out _).mono ?_); rintro e w1 ⟨rfl, rfl⟩) | (go_at_call 110; (with_reducible refine (HA.out _).mono ?_); rintro e w1 ⟨rfl, rfl⟩) | (go_at_call 110; (with_reducible refine (HO.out _).mono ?_); rintro e w1 ⟨rfl, rfl⟩) | (go_at_call 110; (with_reducible refine (HV.out _).mono ?_); rintro e w1 ⟨rfl, rfl⟩) | (go_at_call 72; refine (HN.out _).mono ?_; rintro e w1 ⟨rfl, rfl⟩))
    go_ret
    exact ⟨rfl, ((Below.refl _ _).alloc (Nat.le_refl _) _).alloc (by simp) _⟩
  · clear hfin
    go_enter Tryz.func79, Tryz.ntmps79
    go_wp2_with (first | (go_at_call 110; (with_reducible refine (HM.out _).mono ?_); rintro e w1 ⟨rfl, rfl⟩) | (go_at_call 110; (with_reducible refine (HA.out _).mono ?_); rintro e w1 ⟨rfl, rfl⟩) | (go_at_call 110; (with_reducible refine (HO.out _).mono ?_); rintro e w1 ⟨rfl, rfl⟩) | (go_at_call 110; (with_reducible refine (HV.out _).mono ?_); rintro e w1 ⟨rfl, rfl⟩) | (go_at_call 72; refine (HN.out _).mono ?_; rintro e w1 ⟨rfl, rfl⟩))
    go_ret
    exact ⟨rfl, ((Below.refl _ _).alloc (Nat.le_refl _) _).alloc (by simp) _⟩
  · cases nm
    · have hz := Lib.hid ((hfin _ rfl).1 rfl)
      clear hfin
      go_enter Tryz.func79, Tryz.ntmps79
      go_wp2_with (first | (go_at_call 110; (with_reducible refine (HM.out _).mono ?_); rintro e w1 ⟨rfl, rfl⟩) | (go_at_call 110; (with_reducible refine (HA.out _).mono ?_); rintro e w1 ⟨rfl, rfl⟩) | (go_at_call 110; (with_reducible refine (HO.out _).mono ?_); rintro e w1 ⟨rfl, rfl⟩) | (go_at_call 110; (with_reducible refine (HV.out _).mono ?_); rintro e w1 ⟨rfl, rfl⟩) | (go_at_call 72; refine (HN.out _).mono ?_; rintro e w1 ⟨rfl, rfl⟩))
      go_ret
      exact ⟨by rw [show checkV false true (goodV true true true ra ro rv) false z = 2 from hz.out]; rfl, ((Below.refl _ _).alloc (Nat.le_refl _) _).alloc (by simp) _⟩
    by_cases z1 : z < 0
    · have hz := Lib.hid (((hfin _ rfl).2 rfl).1 z1)
      clear hfin
      go_enter Tryz.func79, Tryz.ntmps79
      go_wp2_with (first | (go_at_call 110; (with_reducible refine (HM.out _).mono ?_); rintro e w1 ⟨rfl, rfl⟩) | (go_at_call 110; (with_reducible refine (HA.out _).mono ?_); rintro e w1 ⟨rfl, rfl⟩) | (go_at_call 110; (with_reducible refine (HO.out _).mono ?_); rintro e w1 ⟨rfl, rfl⟩) | (go_at_call 110; (with_reducible refine (HV.out _).mono ?_); rintro e w1 ⟨rfl, rfl⟩) | (go_at_call 72; refine (HN.out _).mono ?_; rintro e w1 ⟨rfl, rfl⟩))
      go_ret
      exact ⟨by rw [show checkV false true (goodV true true true ra ro rv) true z = 1 from hz.out]; rfl, ((Below.refl _ _).alloc (Nat.le_refl _) _).alloc (by simp) _⟩
    by_cases z2 : 1048576 < z
    · have hz := Lib.hid (((hfin _ rfl).2 rfl).2.1 z2)
      clear hfin
      go_enter Tryz.func79, Tryz.ntmps79
      go_wp2_with (first | (go_at_call 110; (with_reducible refine (HM.out _).mono ?_); rintro e w1 ⟨rfl, rfl⟩) | (go_at_call 110; (with_reducible refine (HA.out _).mono ?_); rintro e w1 ⟨rfl, rfl⟩) | (go_at_call 110; (with_reducible refine (HO.out _).mono ?_); rintro e w1 ⟨rfl, rfl⟩) | (go_at_call 110; (with_reducible refine (HV.out _).mono ?_); rintro e w1 ⟨rfl, rfl⟩) | (go_at_call 72; refine (HN.out _).mono ?_; rintro e w1 ⟨rfl, rfl⟩))
      go_ret
      exact ⟨by rw [show checkV false true (goodV true true true ra ro rv) true z = 1 from hz.out]; rfl, ((Below.refl _ _).alloc (Nat.le_refl _) _).alloc (by simp) _⟩
    have hz := Lib.hid (((hfin _ rfl).2 rfl).2.2 z1 z2)
    clear hfin
    go_enter Tryz.func79, Tryz.ntmps79
    go_wp2_with (first | (go_at_call 110; (with_reducible refine (HM.out _).mono ?_); rintro e w1 ⟨rfl, rfl⟩) | (go_at_call 110; (with_reducible refine (HA.out _).mono ?_); rintro e w1 ⟨rfl, rfl⟩) | (go_at_call 110; (with_reducible refine (HO.out _).mono ?_); rintro e w1 ⟨rfl, rfl⟩) | (go_at_call 110; (with_reducible refine (HV.out _).mono ?_); rintro e w1 ⟨rfl, rfl⟩) | (go_at_call 72; refine (HN.out _).mono ?_; rintro e w1 ⟨rfl, rfl⟩))
    go_ret
    exact ⟨by rw [show checkV false true (goodV true true true ra ro rv) true z = 0 from hz.out]; rfl, ((Below.refl _ _).alloc (Nat.le_refl _) _).alloc (by simp) _⟩
end Go.Proofs.YtoimjnmhinfbkaaGreatDoor

namespace Go.Proofs.YtoimjnmhinfbkaaGreatDoor
open Go.RowKit
set_option maxRecDepth 100000
set_option maxHeartbeats 800000 in
theorem figures23 : ∀ (q : Nat) (w : World), q ≤ 9223372036854775807 → Calls Tryz.prog 81 #[.int .i64 q] w fun e w' => e = .returned (.string ⟨(Lib.decDigits q).toArray⟩) ∧ Below w.heap.size w w' := by
  intro q
  induction q using Nat.strongRecOn with
  | ind q ih =>
    intro w hq
    have hcv := conv_one
    have hcc := conv_cell
    have hq0 : (0 : Int) ≤ (q : Int) := Int.natCast_nonneg _
    have hq1 : (q : Int) ≤ 9223372036854775807 := by omega
    by_cases h9 : q < 10
    · have h9i : (q : Int) < 10 := by omega
      clear ih
      go_enter Tryz.func81, Tryz.ntmps81
      go_wp2
      go_ret
      refine ⟨?_, (Below.refl _ _).alloc (Nat.le_refl _) _⟩
      rw [dec_last q (by omega), ← u8_48]; rfl
    · have h9i : ¬ (q : Int) < 10 := by omega
      have IH := Lib.hid (ih (q / 10) (by omega))
      clear ih
      have hdl : (Lib.decDigits (q / 10)).length ≤ 20 := by
        have := decDigits_length 19 (q / 10) (by omega)
        omega
      go_enter Tryz.func81, Tryz.ntmps81
      have hwr : IntKind.i64.wrap ((q : Int) / 10) = ((q / 10 : Nat) : Int) := (IntWalk.i64_in _ (by omega)).trans (by omega)
      go_wp2_with fail
      go_region_with (go_at_call 81; (try rw [hwr]); refine (IH.out _ (by omega)).mono ?_; rintro e w3 ⟨rfl, hb3⟩; obtain ⟨hc3, hf3⟩ := bcell hb3)
      all_goals
        go_wp2
        go_ret
        refine ⟨?_, ?_⟩
        · rw [dec_step q (by omega), ← u8_48]
          exact congrArg (fun s => Ending.returned (.string s)) (ba_append _ _)
        · have b0 : Below w.heap.size w w.drew := (Below.refl _ _).drew
          have b1 := fun o => (b0.alloc (Nat.le_refl _) o)
          first | exact (b0.trans hb3).alloc hb3.size _ | exact (b1 _).trans (hb3.mono (Nat.le_of_lt (by simp)))
theorem text_of (s : ByteArray) (w : World) : Calls Tryz.prog 77 #[.string s] w fun e w' => e = .returned (.agg #[.int .i64 3, .bool false, .string s, .slice none 0 0, .slice none 0 0]) ∧ Below w.heap.size w w' := by
  go_enter Tryz.func77, Tryz.ntmps77
  go_wp2
  refine bodyPost_ret (v := .agg #[.int .i64 3, .bool false, .string s, .slice none 0 0, .slice none 0 0]) (by simp [results, Tryz.results77, go_sem]) rfl ⟨rfl, ?_⟩
  (repeat (first | with_reducible refine Below.setCell ?_ (by simp) _))
  exact (Below.refl _ _).alloc (Nat.le_refl _) _
theorem rtext_of (s : ByteArray) (w : World) : Calls Tryz.prog 80 #[.string s] w fun e w' => e = .returned (.agg #[.int .i64 3, .bool false, .string s, .slice none 0 0, .slice none 0 0]) ∧ Below w.heap.size w w' := by
  go_enter Tryz.func80, Tryz.ntmps80
  go_wp2
  refine bodyPost_ret (v := .agg #[.int .i64 3, .bool false, .string s, .slice none 0 0, .slice none 0 0]) (by simp [results, Tryz.results80, go_sem]) rfl ⟨rfl, ?_⟩
  (repeat (first | with_reducible refine Below.setCell ?_ (by simp) _))
  exact (Below.refl _ _).alloc (Nat.le_refl _) _
end Go.Proofs.YtoimjnmhinfbkaaGreatDoor
