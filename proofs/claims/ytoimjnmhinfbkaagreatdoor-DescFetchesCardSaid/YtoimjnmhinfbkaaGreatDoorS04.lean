import Derived.BigFrame
import Derived.BigRegion
import Derived.Deep.AppendLies
import Derived.Deep.MidRow
import Derived.Deep.RegionHeld3
import Derived.Deep.RegionLaw
import Derived.Laws.RangeAny
import Derived.Laws.RangeString
import Derived.Lib.DecodeN
import Derived.Lib.Hide
import Derived.Lib.OthersKept
import Derived.OrdersHeld
import Derived.WalkKit
import Derived.Test.YtoimjnmhinfbkaaGreatDoorS02
import Derived.Test.YtoimjnmhinfbkaaGreatDoorS03
namespace Go.Proofs.YtoimjnmhinfbkaaGreatDoor
open Go.RowKit
set_option maxRecDepth 100000
theorem cut_prefix (l p : List UInt8) (w : World) : Calls Tryz.prog 133 #[.string ⟨l.toArray⟩, .string ⟨p.toArray⟩] w fun e w' => e = .returned (.tuple #[.string ⟨(Lib.trimPrefix l p).toArray⟩, .bool (Lib.hasPrefix l p)]) ∧ w = w' :=
 (Tryz.strings_CutPrefix ⟨l.toArray⟩ ⟨p.toArray⟩ w).mono fun e w' ⟨h1, h2⟩ => ⟨by simpa using h1, h2.symm⟩
theorem trim_le (l p : List UInt8) : (Lib.trimPrefix l p).length ≤ l.length := by
 unfold Lib.trimPrefix
 split
 ·simp
 ·exact Nat.le_refl _
def shaP : List UInt8 := [115, 104, 97, 50, 53, 54, 58]
/-- 32 noughts. -/
def zero32 : List Value := List.replicate 32 (.int .u8 0)
def ParseRes (w : World) (l : List UInt8) (e : Ending) (w' : World) : Prop :=
 ((nameB l = true ∧ (unhexV (Lib.trimPrefix l shaP)).length = 32 ∧ e = .returned (.tuple #[.agg (unhexV (Lib.trimPrefix l shaP)).toArray, .nilIface])) ∨ (nameB l = false ∧ e = .returned (.tuple #[.agg zero32.toArray, .iface 35 (.int .i64 2)]))) ∧ Below w.heap.size w w'
/-- the world with the result's own block: told by what is known of it. -/
structure Has32 (w W : World) : Prop where
 size : W.heap.size = w.heap.size + 1
 below : Below w.heap.size w W
 there : W.there w.heap.size 0 32
theorem has32 (w : World) : Has32 w (w.alloc (.cells #[.int .u8 0, .int .u8 0, .int .u8 0, .int .u8 0, .int .u8 0, .int .u8 0, .int .u8 0, .int .u8 0, .int .u8 0, .int .u8 0, .int .u8 0, .int .u8 0, .int .u8 0, .int .u8 0, .int .u8 0, .int .u8 0, .int .u8 0, .int .u8 0, .int .u8 0, .int .u8 0, .int .u8 0, .int .u8 0, .int .u8 0, .int .u8 0, .int .u8 0, .int .u8 0, .int .u8 0, .int .u8 0, .int .u8 0, .int .u8 0, .int .u8 0, .int .u8 0] 177)) := by
 have h0 := heap_alloc_new w (.cells #[.int .u8 0, .int .u8 0, .int .u8 0, .int .u8 0, .int .u8 0, .int .u8 0, .int .u8 0, .int .u8 0, .int .u8 0, .int .u8 0, .int .u8 0, .int .u8 0, .int .u8 0, .int .u8 0, .int .u8 0, .int .u8 0, .int .u8 0, .int .u8 0, .int .u8 0, .int .u8 0, .int .u8 0, .int .u8 0, .int .u8 0, .int .u8 0, .int .u8 0, .int .u8 0, .int .u8 0, .int .u8 0, .int .u8 0, .int .u8 0, .int .u8 0, .int .u8 0] 177)
 refine ⟨by simp, (Below.refl _ _).alloc (Nat.le_refl _) _, fun j hj => ⟨?_, ?_⟩⟩
 ·rw [Nat.zero_add, cell_of_row _ _ j _ _ (0, 0) h0]
  rw [Array.getElem?_eq_getElem (by simpa using hj)]; rfl
 ·unfold World.frozen?
  rw [h0]
  simp
theorem there_below {w w1 : World} {b o n : Nat} (h : w.there b o n) (hb : w1.heap[b]? = w.heap[b]?) : w1.there b o n := fun j hj => by
 rw [cell_of_heap hb, World.frozen?_of_block (a := ⟨b, o + j, none⟩) hb]; exact h j hj
theorem hu177 : Tryz.prog.underlying 177 = some (.array 32 5) := by kernel_rfl
theorem at177 (g c : Nat) (w : World) : (Instr.arrayAt 177 (.slice (some ⟨g, 0, none⟩) 32 c)).run Tryz.prog w = .ok (.pointer (some ⟨g, 0, none⟩)) w := by
 unfold Instr.arrayAt
 rw [Sem.run_bind, run_underlying hu177 w]
 rfl
theorem hi177 : (Tryz.prog.info? 177).map (·.size) = some 32 := by kernel_rfl
theorem byte1 : ∀ v ∈ zero32, v.oneCell' = true := by decide
theorem all_ones (l : List Value) (h : ∀ v ∈ l, v.oneCell' = true) : l.toArray.all (·.oneCell') = true := by
 rw [Array.all_eq_true_iff_forall_mem]
 intro v hv
 exact h v (by simpa using hv)
theorem ones32 : (#[.int .u8 0, .int .u8 0, .int .u8 0, .int .u8 0, .int .u8 0, .int .u8 0, .int .u8 0, .int .u8 0, .int .u8 0, .int .u8 0, .int .u8 0, .int .u8 0, .int .u8 0, .int .u8 0, .int .u8 0, .int .u8 0, .int .u8 0, .int .u8 0, .int .u8 0, .int .u8 0, .int .u8 0, .int .u8 0, .int .u8 0, .int .u8 0, .int .u8 0, .int .u8 0, .int .u8 0, .int .u8 0, .int .u8 0, .int .u8 0, .int .u8 0, .int .u8 0] : Array Value).all (·.oneCell') = true := all_ones _ (by decide)
theorem results108 (tmps : Array Value) (w : World) (b : Nat) (cs : List Value) (x : Value) (h2 : tmps.getD 2 undef = .pointer (some ⟨b, 0, none⟩)) (h3 : tmps.getD 3 undef = x) (hc : w.rangeAt b 0 cs) (hl : cs.length = 32) :
  (results Tryz.f108 tmps).run Tryz.prog w = .ok (.tuple #[.agg cs.toArray, x]) w := by
 have hr := run_loadVar_mid (P := Tryz.prog) w b 0 177 cs (.array 32 5) hc hu177 rfl (by rw [hl]; exact hi177)
 rw [Array.getD_eq_getD_getElem?] at h2 h3
 simp [results, Tryz.results108, h2, h3, hr, asAddr, Sem.run_bind]
theorem parse_end_no {w W w1 : World} {l : List UInt8} (HN : nameB l = false) (H3 : Has32 w W) (hb1 : Below W.heap.size W w1) (hth : w1.there w.heap.size 0 32) (tmps : Array Value) (ds : List Deferred)
  (h2 : tmps.getD 2 undef = .pointer (some ⟨w.heap.size, 0, none⟩)) (h3 : tmps.getD 3 undef = .iface 35 (.int .i64 2)) (hd : ds = []) :
  bodyPost Tryz.prog Tryz.f108 (ParseRes w l) .ret ⟨tmps, ds⟩ (w1.setCells w.heap.size 0 [.int .u8 0, .int .u8 0, .int .u8 0, .int .u8 0, .int .u8 0, .int .u8 0, .int .u8 0, .int .u8 0, .int .u8 0, .int .u8 0, .int .u8 0, .int .u8 0, .int .u8 0, .int .u8 0, .int .u8 0, .int .u8 0, .int .u8 0, .int .u8 0, .int .u8 0, .int .u8 0, .int .u8 0, .int .u8 0, .int .u8 0, .int .u8 0, .int .u8 0, .int .u8 0, .int .u8 0, .int .u8 0, .int .u8 0, .int .u8 0, .int .u8 0, .int .u8 0]) := by
 have hs := H3.size
 exact bodyPost_ret (results108 tmps _ w.heap.size zero32 _ h2 h3 (World.rangeAt_setCells_same _ _ _ _ (fun j hj => hth j (by simpa using hj))) rfl) hd
  ⟨.inr ⟨HN, rfl⟩, setCells_below _ (Nat.le_refl _) _ _ (H3.below.trans (hb1.mono (by omega)))⟩
theorem parse_end_yes {w W w1 : World} {l : List UInt8} (HN : nameB l = true) (hx : (unhexV (Lib.trimPrefix l shaP)).length = 32) (H3 : Has32 w W) (hb1 : Below W.heap.size W w1) (hth : w1.there w.heap.size 0 32) (tmps : Array Value) (ds : List Deferred)
  (h2 : tmps.getD 2 undef = .pointer (some ⟨w.heap.size, 0, none⟩)) (h3 : tmps.getD 3 undef = .nilIface) (hd : ds = []) :
  bodyPost Tryz.prog Tryz.f108 (ParseRes w l) .ret ⟨tmps, ds⟩ (w1.setCells w.heap.size 0 (unhexV (Lib.trimPrefix l shaP))) := by
 have hs := H3.size
 exact bodyPost_ret (results108 tmps _ w.heap.size (unhexV (Lib.trimPrefix l shaP)) _ h2 h3 (World.rangeAt_setCells_same _ _ _ _ (fun j hj => hth j (by omega))) hx) hd
  ⟨.inl ⟨HN, hx, rfl⟩, setCells_below _ (Nat.le_refl _) _ _ (H3.below.trans (hb1.mono (by omega)))⟩
set_option maxHeartbeats 1600000 in
theorem parse_pre (l : List UInt8) (w : World) (hl : l.length ≤ 1073741824) (hp : Lib.hasPrefix l shaP = false) : Calls Tryz.prog 108 #[.string ⟨l.toArray⟩] w (ParseRes w l) := by
 have hn : nameB l = (false && hexB (Lib.trimPrefix l shaP) && ((Lib.trimPrefix l shaP).length / 2 == 32)) := by rw [name_parts]; unfold shaP at hp ⊢; rw [hp]
 have HN := Lib.hid hn
 have HCP := Lib.hid (show ∀ W, Calls Tryz.prog 133 #[.string ⟨l.toArray⟩, .string ⟨#[115, 104, 97, 50, 53, 54, 58]⟩] W fun e w' => e = .returned (.tuple #[.string ⟨(Lib.trimPrefix l shaP).toArray⟩, .bool false]) ∧ W = w' from fun W => by rw [← hp]; exact cut_prefix l shaP W)
 have ht := trim_le l shaP
 generalize ht0 : Lib.trimPrefix l shaP = t at *
 have HT := Lib.hid ht0
 clear ht0
 clear hn hp
 have H32 := has32 w
 go_enter Tryz.func108, Tryz.ntmps108
 go_wp2_with fail
 generalize w.alloc (.cells #[.int .u8 0, .int .u8 0, .int .u8 0, .int .u8 0, .int .u8 0, .int .u8 0, .int .u8 0, .int .u8 0, .int .u8 0, .int .u8 0, .int .u8 0, .int .u8 0, .int .u8 0, .int .u8 0, .int .u8 0, .int .u8 0, .int .u8 0, .int .u8 0, .int .u8 0, .int .u8 0, .int .u8 0, .int .u8 0, .int .u8 0, .int .u8 0, .int .u8 0, .int .u8 0, .int .u8 0, .int .u8 0, .int .u8 0, .int .u8 0, .int .u8 0, .int .u8 0] 177) = W at *
 have H3 := Lib.hid H32
 have hsz := H3.out.size
 go_wp2_with (go_at_call 133; refine (HCP.out _).mono ?_; rintro e w' ⟨rfl, rfl⟩)
 refine (unhex_any t _ (by omega)).mono ?_
 rintro e w1 ⟨⟨hx, v, rfl, hown⟩ | ⟨hx, rfl⟩, hb1⟩
 ·obtain ⟨A, c, rfl, hcc, hlen, hrr⟩ := own_row hown
  have hth := Lib.hid (there_below H3.out.there (hb1.block _ (by omega)))
  have HB1 := Lib.hid hb1
  have hno := Lib.hid (show nameB l = false by rw [HN.out]; rfl)
  clear hown hrr hlen hb1 hsz H32 hx
  go_wp2_with (refine wpList_store_mid (by rfl) 177 (.tmp 2) (.tmp 29) (by rfl) w.heap.size 0 #[.int .u8 0, .int .u8 0, .int .u8 0, .int .u8 0, .int .u8 0, .int .u8 0, .int .u8 0, .int .u8 0, .int .u8 0, .int .u8 0, .int .u8 0, .int .u8 0, .int .u8 0, .int .u8 0, .int .u8 0, .int .u8 0, .int .u8 0, .int .u8 0, .int .u8 0, .int .u8 0, .int .u8 0, .int .u8 0, .int .u8 0, .int .u8 0, .int .u8 0, .int .u8 0, .int .u8 0, .int .u8 0, .int .u8 0, .int .u8 0, .int .u8 0, .int .u8 0] (by rfl) (by rfl) hth.out hi177 ones32 ?_)
  exact parse_end_no hno.out H3.out HB1.out hth.out _ _ rfl rfl rfl
 ·have hth := Lib.hid (there_below H3.out.there (hb1.block _ (by omega)))
  have HB1 := Lib.hid hb1
  have hno := Lib.hid (show nameB l = false by rw [HN.out, hx]; simp)
  clear hb1 hsz H32 hx
  go_wp2_with (refine wpList_store_mid (by rfl) 177 (.tmp 2) (.tmp 29) (by rfl) w.heap.size 0 #[.int .u8 0, .int .u8 0, .int .u8 0, .int .u8 0, .int .u8 0, .int .u8 0, .int .u8 0, .int .u8 0, .int .u8 0, .int .u8 0, .int .u8 0, .int .u8 0, .int .u8 0, .int .u8 0, .int .u8 0, .int .u8 0, .int .u8 0, .int .u8 0, .int .u8 0, .int .u8 0, .int .u8 0, .int .u8 0, .int .u8 0, .int .u8 0, .int .u8 0, .int .u8 0, .int .u8 0, .int .u8 0, .int .u8 0, .int .u8 0, .int .u8 0, .int .u8 0] (by rfl) (by rfl) hth.out hi177 ones32 ?_)
  exact parse_end_no hno.out H3.out HB1.out hth.out _ _ rfl rfl rfl
set_option maxHeartbeats 1600000 in
theorem parse_fig (l : List UInt8) (w : World) (hl : l.length ≤ 1073741824) (hp : Lib.hasPrefix l shaP = true) : Calls Tryz.prog 108 #[.string ⟨l.toArray⟩] w (ParseRes w l) := by
 have hn : nameB l = (true && hexB (Lib.trimPrefix l shaP) && ((Lib.trimPrefix l shaP).length / 2 == 32)) := by rw [name_parts]; unfold shaP at hp ⊢; rw [hp]
 have HN := Lib.hid hn
 have HCP := Lib.hid (show ∀ W, Calls Tryz.prog 133 #[.string ⟨l.toArray⟩, .string ⟨#[115, 104, 97, 50, 53, 54, 58]⟩] W fun e w' => e = .returned (.tuple #[.string ⟨(Lib.trimPrefix l shaP).toArray⟩, .bool true]) ∧ W = w' from fun W => by rw [← hp]; exact cut_prefix l shaP W)
 have ht := trim_le l shaP
 generalize ht0 : Lib.trimPrefix l shaP = t at *
 have HT := Lib.hid ht0
 clear ht0
 clear hn hp
 have H32 := has32 w
 go_enter Tryz.func108, Tryz.ntmps108
 go_wp2_with fail
 generalize w.alloc (.cells #[.int .u8 0, .int .u8 0, .int .u8 0, .int .u8 0, .int .u8 0, .int .u8 0, .int .u8 0, .int .u8 0, .int .u8 0, .int .u8 0, .int .u8 0, .int .u8 0, .int .u8 0, .int .u8 0, .int .u8 0, .int .u8 0, .int .u8 0, .int .u8 0, .int .u8 0, .int .u8 0, .int .u8 0, .int .u8 0, .int .u8 0, .int .u8 0, .int .u8 0, .int .u8 0, .int .u8 0, .int .u8 0, .int .u8 0, .int .u8 0, .int .u8 0, .int .u8 0] 177) = W at *
 have H3 := Lib.hid H32
 have hsz := H3.out.size
 go_wp2_with (go_at_call 133; refine (HCP.out _).mono ?_; rintro e w' ⟨rfl, rfl⟩)
 refine (unhex_any t _ (by omega)).mono ?_
 rintro e w1 ⟨⟨hx, v, rfl, hown⟩ | ⟨hx, rfl⟩, hb1⟩
 ·obtain ⟨A, c, rfl, hcc, hlen, hrr⟩ := own_row hown
  have hth := Lib.hid (there_below H3.out.there (hb1.block _ (by omega)))
  have HB1 := Lib.hid hb1
  by_cases h32 : t.length / 2 = 32
  ·obtain ⟨g, rfl, hg1, hg2, hrow, hfr⟩ := hrr.resolve_left (by rintro ⟨-, h0⟩; omega)
   have hyes := Lib.hid (show nameB l = true by rw [HN.out, hx]; simp [h32])
   rw [h32] at hlen hown hcc ⊢
   have HXL := Lib.hid (show (unhexV t).length = 32 by omega)
   have hrange := Lib.hid (show w1.rangeAt g 0 (unhexV t) from fun j v hv => by
    obtain ⟨hj, rfl⟩ := List.getElem?_eq_some_iff.1 hv
    exact hrow j hj)
   have hones := Lib.hid (unhexV_int t)
   have hat := at177 g c
   clear hown hrow hfr hlen hb1 hsz H32 hx h32
   go_wp2_with (first | (refine wpList_load_mid (by rfl) 177 (.tmp 32) (by rfl) g 0 (by rfl) (unhexV t) (.array 32 5) hrange.out hu177 rfl (by rw [HXL.out]; exact hi177) ?_) | (refine wpList_store_mid (by rfl) 177 (.tmp 2) (.tmp 33) (by rfl) w.heap.size 0 (unhexV t).toArray (by rfl) (by rfl) (by simpa [HXL.out] using hth.out) (by simpa [HXL.out] using hi177) (all_ones _ hones.out) ?_))
   exact HT.out ▸ parse_end_yes hyes.out (by rw [HT.out]; exact HXL.out) H3.out HB1.out hth.out _ _ rfl rfl rfl
  ·have hno := Lib.hid (show nameB l = false by rw [HN.out]; simp [h32])
   have hne : (((t.length / 2 : Nat) : Int) != 32) = true := by simp; omega
   have hne2 : ((t.length : Int) / 2 != 32) = true := by simp; omega
   clear hown hrr hlen hb1 hsz H32 hx
   go_wp2_with (refine wpList_store_mid (by rfl) 177 (.tmp 2) (.tmp 29) (by rfl) w.heap.size 0 #[.int .u8 0, .int .u8 0, .int .u8 0, .int .u8 0, .int .u8 0, .int .u8 0, .int .u8 0, .int .u8 0, .int .u8 0, .int .u8 0, .int .u8 0, .int .u8 0, .int .u8 0, .int .u8 0, .int .u8 0, .int .u8 0, .int .u8 0, .int .u8 0, .int .u8 0, .int .u8 0, .int .u8 0, .int .u8 0, .int .u8 0, .int .u8 0, .int .u8 0, .int .u8 0, .int .u8 0, .int .u8 0, .int .u8 0, .int .u8 0, .int .u8 0, .int .u8 0] (by rfl) (by rfl) hth.out hi177 ones32 ?_)
   exact parse_end_no hno.out H3.out HB1.out hth.out _ _ rfl rfl rfl
 ·have hth := Lib.hid (there_below H3.out.there (hb1.block _ (by omega)))
  have HB1 := Lib.hid hb1
  have hno := Lib.hid (show nameB l = false by rw [HN.out, hx]; simp)
  clear hb1 hsz H32 hx
  go_wp2_with (refine wpList_store_mid (by rfl) 177 (.tmp 2) (.tmp 29) (by rfl) w.heap.size 0 #[.int .u8 0, .int .u8 0, .int .u8 0, .int .u8 0, .int .u8 0, .int .u8 0, .int .u8 0, .int .u8 0, .int .u8 0, .int .u8 0, .int .u8 0, .int .u8 0, .int .u8 0, .int .u8 0, .int .u8 0, .int .u8 0, .int .u8 0, .int .u8 0, .int .u8 0, .int .u8 0, .int .u8 0, .int .u8 0, .int .u8 0, .int .u8 0, .int .u8 0, .int .u8 0, .int .u8 0, .int .u8 0, .int .u8 0, .int .u8 0, .int .u8 0, .int .u8 0] (by rfl) (by rfl) hth.out hi177 ones32 ?_)
  exact parse_end_no hno.out H3.out HB1.out hth.out _ _ rfl rfl rfl
end Go.Proofs.YtoimjnmhinfbkaaGreatDoor

namespace Go.Proofs.YtoimjnmhinfbkaaGreatDoor
open Go.RowKit
set_option maxRecDepth 100000
theorem dparse_any (l : List UInt8) (w : World) (hl : l.length ≤ 1073741824) : Calls Tryz.prog 108 #[.string ⟨l.toArray⟩] w (ParseRes w l) := by
 cases h : Lib.hasPrefix l shaP with
 | false => exact parse_pre l w hl h
 | true => exact parse_fig l w hl h
/-- as is: in brief. -/
theorem parse_brief (l : List UInt8) (w : World) (hl : l.length ≤ 1073741824) : Calls Tryz.prog 108 #[.string ⟨l.toArray⟩] w fun e w' => (∃ cs : List Value, cs.length = 32 ∧ (∀ v ∈ cs, v.oneCell' = true) ∧ e = .returned (.tuple #[.agg cs.toArray, if nameB l = true then .nilIface else .iface 35 (.int .i64 2)])) ∧ Below w.heap.size w w' :=
 (dparse_any l w hl).mono fun e w' ⟨h, hb⟩ => by
  refine ⟨?_, hb⟩
  rcases h with ⟨h1, h2, h3⟩ | ⟨h1, h2⟩
  ·exact ⟨_, h2, unhexV_int _, by rw [h3, h1]; rfl⟩
  ·exact ⟨zero32, rfl, byte1, by rw [h2, h1]; rfl⟩
set_option maxHeartbeats 800000 in
theorem is_any (l : List UInt8) (w : World) (hl : l.length ≤ 1073741824) : Calls Tryz.prog 74 #[.string ⟨l.toArray⟩] w fun e w' => e = .returned (.bool (nameB l)) ∧ Below w.heap.size w w' := by
 have HP := Lib.hid (fun W => parse_brief l W hl)
 have HT := Lib.hid (fun W : World => (has32 W).there)
 cases hn : nameB l with
 | false =>
  rw [hn] at HP
  simp only [Bool.false_eq_true, if_false] at HP
  clear hn
  go_enter Tryz.func74, Tryz.ntmps74
  go_wp2_with (first | (go_at_call 108; refine (HP.out _).mono ?_; rintro e w1 ⟨⟨cs, hcs, hone, rfl⟩, hb1⟩; have HC := Lib.hid hcs; have HO := Lib.hid hone; have HB1 := Lib.hid hb1; clear hcs hone hb1) | (refine wpList_store_mid (by rfl) 177 (.tmp 3) (.tmp 8) (by rfl) w1.heap.size 0 cs.toArray (by rfl) (by rfl) (by simpa [HC.out] using HT.out w1) (by simpa [HC.out] using hi177) (all_ones _ HO.out) ?_))
  go_ret
  exact ⟨rfl, setCells_below _ (by have := HB1.out.size; omega) _ _ (HB1.out.alloc (by have := HB1.out.size; omega) _)⟩
 | true =>
  rw [hn] at HP
  simp only [if_true] at HP
  clear hn
  go_enter Tryz.func74, Tryz.ntmps74
  go_wp2_with (first | (go_at_call 108; refine (HP.out _).mono ?_; rintro e w1 ⟨⟨cs, hcs, hone, rfl⟩, hb1⟩; have HC := Lib.hid hcs; have HO := Lib.hid hone; have HB1 := Lib.hid hb1; clear hcs hone hb1) | (refine wpList_store_mid (by rfl) 177 (.tmp 3) (.tmp 8) (by rfl) w1.heap.size 0 cs.toArray (by rfl) (by rfl) (by simpa [HC.out] using HT.out w1) (by simpa [HC.out] using hi177) (all_ones _ HO.out) ?_))
  go_ret
  exact ⟨rfl, setCells_below _ (by have := HB1.out.size; omega) _ _ (HB1.out.alloc (by have := HB1.out.size; omega) _)⟩
end Go.Proofs.YtoimjnmhinfbkaaGreatDoor

namespace Go.Proofs.YtoimjnmhinfbkaaGreatDoor
open Go.RowKit
set_option maxRecDepth 100000
def nMedia : ByteArray := ⟨#[109, 101, 100, 105, 97, 84, 121, 112, 101]⟩
def nDig : ByteArray := ⟨#[100, 105, 103, 101, 115, 116]⟩
def nSize : ByteArray := ⟨#[115, 105, 122, 101]⟩
def nPlat : ByteArray := ⟨#[112, 108, 97, 116, 102, 111, 114, 109]⟩
/-- a descriptor: media, name, size, platform. -/
abbrev DescT := ByteArray × ByteArray × Int × ByteArray × ByteArray × ByteArray
def nameS (s : ByteArray) : Bool := nameB s.data.toList
theorem is_str (s : ByteArray) (w : World) (hl : s.size ≤ 1073741824) : Calls Tryz.prog 74 #[.string s] w fun e w' => e = .returned (.bool (nameS s)) ∧ Below w.heap.size w w' := by
 have := is_any s.data.toList w (by simpa using hl)
 rw [ba_eta] at this
 exact this
def platsA (v : V) (p : ByteArray) : Except (Int × ByteArray) (ByteArray × ByteArray × ByteArray) :=
 match v.maybe nPlat with
 | none => .ok ((⟨#[]⟩ : ByteArray), (⟨#[]⟩ : ByteArray), (⟨#[]⟩ : ByteArray))
 | some u => platA u (fieldPlace p nPlat)
def sizeA (v : V) (p : ByteArray) : Except (Int × ByteArray) Int :=
 match fieldA v p nSize with
 | .error b => .error b
 | .ok z => wholeA z (fieldPlace p nSize) 0 1048576
def digA (v : V) (p : ByteArray) : Except (Int × ByteArray) ByteArray :=
 match fieldA v p nDig with
 | .error b => .error b
 | .ok f => match textA f (fieldPlace p nDig) 255 with
  | .error b => .error b
  | .ok d => if nameS d = true then .ok d else .error (2, fieldPlace p nDig)
def takeA (v : V) (p : ByteArray) : Except (Int × ByteArray) DescT :=
 match filledA v p nMedia 255 with
 | .error b => .error b
 | .ok s => match digA v p with
  | .error b => .error b
  | .ok d => match sizeA v p with
   | .error b => .error b
   | .ok q => match platsA v p with
    | .error b => .error b
    | .ok r => .ok (s, d, q, r)
def descE : Except (Int × ByteArray) DescT → DescT
 | .ok r => r
 | .error _ => ((⟨#[]⟩ : ByteArray), (⟨#[]⟩ : ByteArray), 0, (⟨#[]⟩ : ByteArray), (⟨#[]⟩ : ByteArray), (⟨#[]⟩ : ByteArray))
def descV (r : DescT) : Value := .agg #[.string r.1, .string r.2.1, .int .i64 r.2.2.1, .string r.2.2.2.1, .string r.2.2.2.2.1, .string r.2.2.2.2.2]
theorem wholeA_codes {v : V} {p : ByteArray} {l m : Int} {b : Int × ByteArray} (h : wholeA v p l m = .error b) : b.1 ≠ 0 := by
 unfold wholeA at h
 split at h
 ·split at h
  ·split at h
   ·cases h
   ·injection h with h; subst h; simp
  ·split at h <;> (injection h with h; subst h; simp)
 ·injection h with h; subst h; simp
theorem platA_codes {v : V} {p : ByteArray} {b : Int × ByteArray} (h : platA v p = .error b) : b.1 ≠ 0 := by
 unfold platA at h
 split at h
 ·rename_i h1; injection h with h; subst h; exact filledA_codes h1
 ·split at h
  ·rename_i h1; injection h with h; subst h; exact filledA_codes h1
  ·split at h
   ·rename_i h1; injection h with h; subst h; rw [varA_eq] at h1; exact perhapsA_codes h1
   ·cases h
theorem textA_size {u : V} {p s : ByteArray} {m : Int} (h : textA u p m = .ok s) : s = u.text := by
 unfold textA at h
 split at h
 ·split at h
  ·injection h with h; exact h.symm
  ·cases h
 ·cases h
end Go.Proofs.YtoimjnmhinfbkaaGreatDoor

namespace Go.Proofs.YtoimjnmhinfbkaaGreatDoor
open Go.RowKit
set_option maxRecDepth 100000
def errnoV (c : Int) : Value := if c = 0 then .nilIface else .iface 35 (.int .i64 c)
theorem num_any (c : Int) (h : 0 ≤ c) (w : World) : Calls Tryz.prog 35 #[errnoV c] w fun e w' => e = .returned (.int .i64 c) ∧ w = w' := by
 unfold errnoV
 by_cases h0 : c = 0
 ·subst h0
  simp only [if_true]
  go_enter Tryz.func35, Tryz.ntmps35
  go_wp2
  go_ret
  exact ⟨rfl, rfl⟩
 ·rw [if_neg h0]
  have hta : ∀ w, (Instr.typeAssert (.iface 35 (.int .i64 c)) 29 35 true).run Tryz.prog w = .ok (.tuple #[.int .i64 c, .bool true]) w := fun _ => by kernel_rfl
  have hc : (c != 0) = true := by simpa using h0
  clear h0
  go_enter Tryz.func35, Tryz.ntmps35
  go_wp2
  go_ret
  exact ⟨rfl, rfl⟩
end Go.Proofs.YtoimjnmhinfbkaaGreatDoor

namespace Go.Proofs.YtoimjnmhinfbkaaGreatDoor
open Go.RowKit
set_option maxRecDepth 100000
theorem to_met2 {J K : Go.Act → World → Prop} {P : Go.Act → World → Prop} {Q : Exit → Go.Act → World → Prop} {a : Go.Act} {w : World} (k : ∀ a w, Met J a w → K a w) (h : ∀ a w, P a w → J a w) (hp : P a w) : Exit.then K Q Exit.normal a w := k _ _ (Met.intro (h _ _ hp))
structure PMid (w : World) (v : V) (A : Option Addr) (ca : Nat) (B : Option Addr) (cb : Nat) (p a o : ByteArray) (g : Nat) (wx : World) : Prop where
 below : Below w.heap.size w wx
 lo : w.heap.size + 1 < g
 hi : g < wx.heap.size
 box : wx.heap[w.heap.size]? = some (.cells #[.int .i64 v.kind, .bool v.tr, .string v.text, .slice A v.list.length ca, .slice B v.names.length cb, .string p] 32 (0, 0))
 res : wx.heap[w.heap.size + 1]? = some (.cells #[.string ⟨#[]⟩, .string ⟨#[]⟩, .string ⟨#[]⟩] 60 (0, 0))
 cur : wx.heap[g]? = some (.cells #[.string a, .string o, .string ⟨#[]⟩] 60 (0, 0))
theorem pmid_alloc {w w2 : World} {v : V} {A : Option Addr} {ca : Nat} {B : Option Addr} {cb : Nat} {p a o : ByteArray} (hb : Below w.heap.size w w2) (hz : w.heap.size + 1 < w2.heap.size)
  (hk : w2.heap[w.heap.size]? = some (.cells #[.int .i64 v.kind, .bool v.tr, .string v.text, .slice A v.list.length ca, .slice B v.names.length cb, .string p] 32 (0, 0)))
  (hr : w2.heap[w.heap.size + 1]? = some (.cells #[.string ⟨#[]⟩, .string ⟨#[]⟩, .string ⟨#[]⟩] 60 (0, 0))) :
  PMid w v A ca B cb p a o w2.heap.size (w2.alloc (.cells #[.string a, .string o, .string ⟨#[]⟩] 60)) :=
 ⟨hb.alloc (by omega) _, hz, by simp, (alloc_before (by omega)).trans hk, (alloc_before (by omega)).trans hr, alloc_at rfl⟩
theorem pmid_set {w w2 : World} {v : V} {A : Option Addr} {ca : Nat} {B : Option Addr} {cb : Nat} {p a o : ByteArray} {g : Nat} (hb : Below w.heap.size w w2) (hz : w.heap.size + 1 < g)
  (hk : w2.heap[w.heap.size]? = some (.cells #[.int .i64 v.kind, .bool v.tr, .string v.text, .slice A v.list.length ca, .slice B v.names.length cb, .string p] 32 (0, 0)))
  (hr : w2.heap[w.heap.size + 1]? = some (.cells #[.string ⟨#[]⟩, .string ⟨#[]⟩, .string ⟨#[]⟩] 60 (0, 0)))
  (hp : w2.heap[g]? = some (.cells #[.string ⟨#[]⟩, .string ⟨#[]⟩, .string ⟨#[]⟩] 60 (0, 0))) :
  PMid w v A ca B cb p a o g (((w2.setCell ⟨g, 0, none⟩ (.string a)).setCell ⟨g, 1, none⟩ (.string o)).setCell ⟨g, 2, none⟩ (.string ⟨#[]⟩)) := by
 have hlt : g < w2.heap.size := (Array.getElem?_eq_some_iff.1 hp).1
 refine ⟨?_, hz, by simp only [setCell_size]; exact hlt, ?_, ?_, ?_⟩
 ·exact ((hb.setCell (by show _ ≤ g; omega) _).setCell (by show _ ≤ g; omega) _).setCell (by show _ ≤ g; omega) _
 ·rw [Below.heap_setCell _ _ _ _ (by show _ ≠ g; omega), Below.heap_setCell _ _ _ _ (by show _ ≠ g; omega), Below.heap_setCell _ _ _ _ (by show _ ≠ g; omega)]; exact hk
 ·rw [Below.heap_setCell _ _ _ _ (by show _ ≠ g; omega), Below.heap_setCell _ _ _ _ (by show _ ≠ g; omega), Below.heap_setCell _ _ _ _ (by show _ ≠ g; omega)]; exact hr
 ·exact blk_set (blk_set (blk_set hp 0 _) 1 _) 2 _
set_option maxHeartbeats 4000000 in
theorem plat_good (v : V) (cs : List Value) (p : ByteArray) (w : World) (S : Nat → Prop) (hv : v.Rep w S cs) (hb : v.bulk ≤ 4194304) (hp : p.size ≤ 1000000) (a : ByteArray) (h1 : filledA v p nArch 64 = .ok a) (o : ByteArray) (h2 : filledA v p nOs 64 = .ok o) :
  Calls Tryz.prog 31 #[.agg (cs ++ [Value.string p]).toArray] w (AnsL w IsPlat (platA v p)) := by
 generalize hr : platA v p = r
 have HR := Lib.hid hr
 have HV := Lib.hid hv
 have HK := Lib.hid (filledA_kind h1)
 have HPA := Lib.hid (show platA v p = (match varA v p with | .error b => .error b | .ok x => .ok (a, o, x)) by simp only [platA, h1, h2]; cases varA v p <;> rfl)
 obtain ⟨A, ca, B, cb, rfl, -⟩ := hv.open
 have HA := Lib.hid (fun W (hW : Below w.heap.size w W) => filled_ok v [.int .i64 v.kind, .bool v.tr, .string v.text, .slice A v.list.length ca, .slice B v.names.length cb] p ⟨#[97, 114, 99, 104, 105, 116, 101, 99, 116, 117, 114, 101]⟩ 64 W S (HV.out.agree fun b hb hlt => ⟨hW.block b hlt, hb⟩) hb (by omega) (by decide) a h1)
 have HB := Lib.hid (fun W (hW : Below w.heap.size w W) => filled_ok v [.int .i64 v.kind, .bool v.tr, .string v.text, .slice A v.list.length ca, .slice B v.names.length cb] p ⟨#[111, 115]⟩ 64 W S (HV.out.agree fun b hb hlt => ⟨hW.block b hlt, hb⟩) hb (by omega) (by decide) o h2)
 clear hv h1 h2 hr
 simp only [List.cons_append, List.nil_append] at HA HB ⊢
 go_enter Tryz.func31, Tryz.ntmps31
 go_upto_region 1 with (fail)
 have K0' := alloc_before (o := .cells #[.string ⟨#[]⟩, .string ⟨#[]⟩, .string ⟨#[]⟩] 60) (show w.heap.size < (w.alloc (.cells #[.int .i64 v.kind, .bool v.tr, .string v.text, .slice A v.list.length ca, .slice B v.names.length cb, .string p] 32)).heap.size by simp)
 rw [heap_alloc_new] at K0'
 have R0' := heap_alloc_new (w.alloc (.cells #[.int .i64 v.kind, .bool v.tr, .string v.text, .slice A v.list.length ca, .slice B v.names.length cb, .string p] 32)) (.cells #[.string ⟨#[]⟩, .string ⟨#[]⟩, .string ⟨#[]⟩] 60)
 have HW0 : Below w.heap.size w ((w.alloc (.cells #[.int .i64 v.kind, .bool v.tr, .string v.text, .slice A v.list.length ca, .slice B v.names.length cb, .string p] 32)).alloc (.cells #[.string ⟨#[]⟩, .string ⟨#[]⟩, .string ⟨#[]⟩] 60)) := ((Below.refl _ _).alloc (Nat.le_refl _) _).alloc (by simp) _
 have hs0 : ((w.alloc (.cells #[.int .i64 v.kind, .bool v.tr, .string v.text, .slice A v.list.length ca, .slice B v.names.length cb, .string p] 32)).alloc (.cells #[.string ⟨#[]⟩, .string ⟨#[]⟩, .string ⟨#[]⟩] 60)).heap.size = w.heap.size + 2 := by simp
 rw [show (w.alloc (.cells #[.int .i64 v.kind, .bool v.tr, .string v.text, .slice A v.list.length ca, .slice B v.names.length cb, .string p] 32)).heap.size = w.heap.size + 1 by simp] at R0'
 generalize (w.alloc (.cells #[.int .i64 v.kind, .bool v.tr, .string v.text, .slice A v.list.length ca, .slice B v.names.length cb, .string p] 32)).alloc (.cells #[.string ⟨#[]⟩, .string ⟨#[]⟩, .string ⟨#[]⟩] 60) = W at *
 have HW := Lib.hid HW0
 have K0 := Lib.hid K0'
 have R0 := Lib.hid R0'
 have c0 := fun o => cell_of_row W w.heap.size o _ 32 (0, 0) K0.out
 have n0 : ¬ w.heap.size = W.heap.size := by omega
 have m0 : ¬ W.heap.size = w.heap.size := by omega
 have l0 : w.heap.size < W.heap.size := by omega
 have z0 : w.heap.size + 1 < W.heap.size := by omega
 clear K0' R0' HW0 hs0
 go_cut [3] (fun u3 wx => ∃ g, u3 = .pointer (some ⟨g, 0, none⟩) ∧ PMid w v A ca B cb p a o g wx)
 case first =>
  go_region_held3 (fun w' => w'.cell? ⟨w.heap.size, 0, none⟩ = some (.int .i64 v.kind) ∧ w'.cell? ⟨w.heap.size, 1, none⟩ = some (.bool v.tr) ∧ w'.cell? ⟨w.heap.size, 2, none⟩ = some (.string v.text) ∧ w'.cell? ⟨w.heap.size, 3, none⟩ = some (.slice A v.list.length ca) ∧ w'.cell? ⟨w.heap.size, 4, none⟩ = some (.slice B v.names.length cb) ∧ w'.cell? ⟨w.heap.size, 5, none⟩ = some (.string p))
   (go_keep)
   ((first | (go_at_call 73; (with_reducible refine (HA.out _ ?_).mono ?_); (· ((repeat (first | with_reducible refine Below.drew ?_ | with_reducible refine Below.alloc ?_ (by first | omega | (simp; done) | (simp; omega)) _)); exact HW.out)); rintro e w1 ⟨rfl, hb1⟩; have HB1 := Lib.hid hb1; have z1 : w.heap.size + 1 < w1.heap.size := (by have := hb1.size; first | omega | (simp at this; omega)); have K1 := Lib.hid (show w1.heap[w.heap.size]? = some (.cells #[.int .i64 v.kind, .bool v.tr, .string v.text, .slice A v.list.length ca, .slice B v.names.length cb, .string p] 32 (0, 0)) from (hb1.block _ (by first | omega | (simp; done) | (simp; omega))).trans (by first | exact K0.out | exact ((alloc_before (by first | omega | (simp; done) | (simp; omega))).trans K0.out))); have R1 := Lib.hid (show w1.heap[w.heap.size + 1]? = some (.cells #[.string ⟨#[]⟩, .string ⟨#[]⟩, .string ⟨#[]⟩] 60 (0, 0)) from (hb1.block _ (by first | omega | (simp; done) | (simp; omega))).trans (by first | exact R0.out | exact ((alloc_before (by first | omega | (simp; done) | (simp; omega))).trans R0.out))); have n1 : ¬ w.heap.size = w1.heap.size := (by omega); have m1 : ¬ w1.heap.size = w.heap.size := (by omega); have c1 := (fun o => cell_of_row w1 w.heap.size o _ 32 (0, 0) K1.out); have l1 : w.heap.size < w1.heap.size := (by omega); have q1 := hb1.size; (try simp at q1); (try (have P1 : w1.heap[W.heap.size]? = some (.cells #[.string ⟨#[]⟩, .string ⟨#[]⟩, .string ⟨#[]⟩] 60 (0, 0)) := (hb1.block _ (by first | omega | (simp; done) | (simp; omega))).trans (by first | exact alloc_at rfl | exact P1); have pc1 := (fun o => cell_of_row w1 W.heap.size o _ 60 (0, 0) P1); have pf1 : ∀ o, w1.frozen? ⟨W.heap.size, o, none⟩ = false := (fun o => by simp [World.frozen?, P1]); have pn1 : ¬ w.heap.size = W.heap.size := (by omega))); clear hb1) | (go_at_call 73; (with_reducible refine (HB.out _ ?_).mono ?_); (· ((repeat (first | with_reducible refine Below.drew ?_ | with_reducible refine Below.alloc ?_ (by first | omega | (simp; done) | (simp; omega)) _)); refine Below.trans ?_ (HB1.out.mono (by first | omega | (simp; done) | (simp; omega))); (repeat (first | with_reducible refine Below.drew ?_ | with_reducible refine Below.alloc ?_ (by first | omega | (simp; done) | (simp; omega)) _)); exact HW.out)); rintro e w2 ⟨rfl, hb2⟩; have HB2 := Lib.hid hb2; have z2 : w.heap.size + 1 < w2.heap.size := (by have := hb2.size; first | omega | (simp at this; omega)); have K2 := Lib.hid (show w2.heap[w.heap.size]? = some (.cells #[.int .i64 v.kind, .bool v.tr, .string v.text, .slice A v.list.length ca, .slice B v.names.length cb, .string p] 32 (0, 0)) from (hb2.block _ (by first | omega | (simp; done) | (simp; omega))).trans (by first | exact K1.out | exact ((alloc_before (by first | omega | (simp; done) | (simp; omega))).trans K1.out))); have R2 := Lib.hid (show w2.heap[w.heap.size + 1]? = some (.cells #[.string ⟨#[]⟩, .string ⟨#[]⟩, .string ⟨#[]⟩] 60 (0, 0)) from (hb2.block _ (by first | omega | (simp; done) | (simp; omega))).trans (by first | exact R1.out | exact ((alloc_before (by first | omega | (simp; done) | (simp; omega))).trans R1.out))); have n2 : ¬ w.heap.size = w2.heap.size := (by omega); have m2 : ¬ w2.heap.size = w.heap.size := (by omega); have c2 := (fun o => cell_of_row w2 w.heap.size o _ 32 (0, 0) K2.out); have l2 : w.heap.size < w2.heap.size := (by omega); have q2 := hb2.size; (try simp at q2); (try (have P2 : w2.heap[W.heap.size]? = some (.cells #[.string ⟨#[]⟩, .string ⟨#[]⟩, .string ⟨#[]⟩] 60 (0, 0)) := (hb2.block _ (by first | omega | (simp; done) | (simp; omega))).trans (by first | exact alloc_at rfl | exact P1); have pc2 := (fun o => cell_of_row w2 W.heap.size o _ 60 (0, 0) P2); have pf2 : ∀ o, w2.frozen? ⟨W.heap.size, o, none⟩ = false := (fun o => by simp [World.frozen?, P2]); have pn2 : ¬ w.heap.size = W.heap.size := (by omega))); (try (have P2 : w2.heap[w1.heap.size]? = some (.cells #[.string ⟨#[]⟩, .string ⟨#[]⟩, .string ⟨#[]⟩] 60 (0, 0)) := (hb2.block _ (by first | omega | (simp; done) | (simp; omega))).trans (by exact alloc_at rfl); have pc2 := (fun o => cell_of_row w2 w1.heap.size o _ 60 (0, 0) P2); have pf2 : ∀ o, w2.frozen? ⟨w1.heap.size, o, none⟩ = false := (fun o => by simp [World.frozen?, P2]))); clear hb2)))
  all_goals
   refine to_met2 (by assumption) (by assumption) ?_
   (repeat apply Exists.intro)
   refine ⟨?_, rfl⟩
   refine ⟨_, rfl, ?_⟩
   first | exact pmid_alloc (by ((repeat (first | with_reducible refine Below.drew ?_ | with_reducible refine Below.alloc ?_ (by first | omega | (simp; done) | (simp; omega)) _)); refine Below.trans ?_ (HB2.out.mono (by first | omega | (simp; done) | (simp; omega))); (repeat (first | with_reducible refine Below.drew ?_ | with_reducible refine Below.alloc ?_ (by first | omega | (simp; done) | (simp; omega)) _)); refine Below.trans ?_ (HB1.out.mono (by first | omega | (simp; done) | (simp; omega))); (repeat (first | with_reducible refine Below.drew ?_ | with_reducible refine Below.alloc ?_ (by first | omega | (simp; done) | (simp; omega)) _)); exact HW.out)) z2 K2.out R2.out | exact pmid_set (by ((repeat (first | with_reducible refine Below.drew ?_ | with_reducible refine Below.alloc ?_ (by first | omega | (simp; done) | (simp; omega)) _)); refine Below.trans ?_ (HB2.out.mono (by first | omega | (simp; done) | (simp; omega))); (repeat (first | with_reducible refine Below.drew ?_ | with_reducible refine Below.alloc ?_ (by first | omega | (simp; done) | (simp; omega)) _)); refine Below.trans ?_ (HB1.out.mono (by first | omega | (simp; done) | (simp; omega))); (repeat (first | with_reducible refine Below.drew ?_ | with_reducible refine Below.alloc ?_ (by first | omega | (simp; done) | (simp; omega)) _)); exact HW.out)) (by omega) K2.out R2.out P2
 clear HA HB HW K0 R0 c0 n0 m0 l0 z0
 obtain ⟨g, rfl, hm⟩ := hcut
 have HM := Lib.hid hm
 have c0 := fun o => cell_of_row wc w.heap.size o _ 32 (0, 0) hm.box
 have c1 := fun o => cell_of_row wc (w.heap.size + 1) o _ 60 (0, 0) hm.res
 have c2 := fun o => cell_of_row wc g o _ 60 (0, 0) hm.cur
 have f1 : ∀ o, wc.frozen? ⟨w.heap.size + 1, o, none⟩ = false := fun o => by simp [World.frozen?, hm.res]
 have f2 : ∀ o, wc.frozen? ⟨g, o, none⟩ = false := fun o => by simp [World.frozen?, hm.cur]
 have l1 := hm.lo
 have l2 := hm.hi
 have n1 : ¬ w.heap.size = g := by omega
 have n2 : ¬ w.heap.size + 1 = g := by omega
 have HMB := Lib.hid (fun W (hW : Below w.heap.size w W) => (HV.out.agree fun b hb hlt => ⟨hW.block b hlt, hb⟩ : v.Rep W S [.int .i64 v.kind, .bool v.tr, .string v.text, .slice A v.list.length ca, .slice B v.names.length cb]))
 clear hm
 cases hmy : v.maybe nVar with
 | none =>
  have hr2 : r = .ok (a, o, ⟨#[]⟩) := by rw [← HR.out, HPA.out]; simp only [varA, hmy]
  have HR2 := Lib.hid hr2
  have HY := Lib.hid hmy
  clear hr2 hmy
  go_wp2_with fail
  refine (maybe_none v [.int .i64 v.kind, .bool v.tr, .string v.text, .slice A v.list.length ca, .slice B v.names.length cb] p ⟨#[118, 97, 114, 105, 97, 110, 116]⟩ _ S (HMB.out _ HM.out.below) hb HK.out (by omega) (by decide) HY.out).mono ?_
  rintro e w3 ⟨rfl, hb3⟩
  have HB3 := Lib.hid hb3
  have e2 := fun o => cell_of_row w3 g o _ 60 (0, 0) ((hb3.block g (by omega)).trans HM.out.cur)
  have e1b := (hb3.block (w.heap.size + 1) (by omega)).trans HM.out.res
  have e1 := fun o => cell_of_row w3 (w.heap.size + 1) o _ 60 (0, 0) e1b
  have g1 : ∀ o, w3.frozen? ⟨w.heap.size + 1, o, none⟩ = false := fun o => by simp [World.frozen?, e1b]
  have m1 : w.heap.size + 1 < w3.heap.size := by have := hb3.size; omega
  have m2 : g < w3.heap.size := by have := hb3.size; omega
  clear hb3 e1b c0 c1 c2 f1 f2
  go_wp2
  refine bodyPost_ret (v := .agg #[.string a, .string o, .string ⟨#[]⟩]) (by simp [results, Tryz.results31, go_sem, e1, e2, g1, m1, m2]) rfl ?_
  refine AnsL.ok (a, o, (⟨#[]⟩ : ByteArray)) _ HR2.out rfl ?_
  (repeat (first | with_reducible refine Below.setCell ?_ (by first | omega | (simp; done) | (simp; omega)) _ | with_reducible refine Below.drew ?_ | with_reducible refine Below.alloc ?_ (by first | omega | (simp; done) | (simp; omega)) _))
  exact HM.out.below.trans (HB3.out.mono (by omega))
 | some u =>
  have hub : u.bulk ≤ 4194304 := by have := V.get_bulk (V.maybe_get hmy); omega
  have HY := Lib.hid hmy
  have HPB := Lib.hid (show platA v p = (match textA u (fieldPlace p nVar) 64 with | .error b => .error b | .ok x => .ok (a, o, x)) by rw [HPA.out]; simp only [varA, hmy])
  clear hmy
  go_wp2_with fail
  refine (maybe_some v u [.int .i64 v.kind, .bool v.tr, .string v.text, .slice A v.list.length ca, .slice B v.names.length cb] p ⟨#[118, 97, 114, 105, 97, 110, 116]⟩ _ S (HMB.out _ HM.out.below) hb HK.out (by omega) (by decide) HY.out).mono ?_
  rintro e w3 ⟨cs3, rfl, hrep3, hb3⟩
  obtain ⟨A3, ca3, B3, cb3, rfl, -⟩ := hrep3.open
  have HB3 := Lib.hid hb3
  have e2b := (hb3.block g (by omega)).trans HM.out.cur
  have e1b := (hb3.block (w.heap.size + 1) (by omega)).trans HM.out.res
  have E2 := Lib.hid e2b
  have E1 := Lib.hid e1b
  have hsz3 : wc.heap.size ≤ w3.heap.size := hb3.size
  clear hb3 e1b e2b c0 c1 c2 f1 f2 hrep3
  go_wp2_with fail
  refine (ltext_any u A3 _ ca3 B3 _ cb3 (fieldPlace p ⟨#[118, 97, 114, 105, 97, 110, 116]⟩) 64 _ hub).mono ?_
  rintro e w4 h4
  cases ht : textA u (fieldPlace p ⟨#[118, 97, 114, 105, 97, 110, 116]⟩) 64 with
  | error b =>
   rw [ht] at h4
   obtain ⟨c, q⟩ := b
   have HR2 := Lib.hid (show r = .error (c, q) by rw [← HR.out, HPB.out]; unfold nVar; simp only [ht])
   obtain ⟨gg, rfl, hth⟩ := h4
   clear ht
   go_wp2
   exact ⟨rfl, AnsL.bad c q HR2.out (Threw.of ⟨gg, rfl, hth⟩ ((HM.out.below.trans (HB3.out.mono (by omega))).alloc (by omega) _))⟩
  | ok x =>
   rw [ht] at h4
   obtain ⟨val, rfl, rfl, hb4⟩ := h4
   have HR2 := Lib.hid (show r = .ok (a, o, x) by rw [← HR.out, HPB.out]; unfold nVar; simp only [ht])
   have HB4 := Lib.hid hb4
   have hs4 : w3.heap.size + 1 ≤ w4.heap.size := by have := hb4.size; simpa using this
   have d2b := (hb4.block g (by simp; omega)).trans ((alloc_before (by omega)).trans E2.out)
   have d1b := (hb4.block (w.heap.size + 1) (by simp; omega)).trans ((alloc_before (by omega)).trans E1.out)
   have d2 := fun o => cell_of_row w4 g o _ 60 (0, 0) d2b
   have d1 := fun o => cell_of_row w4 (w.heap.size + 1) o _ 60 (0, 0) d1b
   have y1 : ∀ o, w4.frozen? ⟨w.heap.size + 1, o, none⟩ = false := fun o => by simp [World.frozen?, d1b]
   have y2 : ∀ o, w4.frozen? ⟨g, o, none⟩ = false := fun o => by simp [World.frozen?, d2b]
   have n3 : ¬ g = w.heap.size + 1 := by omega
   clear ht hb4 d1b d2b
   go_wp2
   refine bodyPost_ret (v := .agg #[.string a, .string o, .string x]) (by simp [results, Tryz.results31, go_sem, d1, d2, y1, y2, n2, n3]) rfl ?_
   refine AnsL.ok (a, o, x) _ HR2.out rfl ?_
   (repeat (first | with_reducible refine Below.setCell ?_ (by first | omega | (simp; done) | (simp; omega)) _ | with_reducible refine Below.drew ?_ | with_reducible refine Below.alloc ?_ (by first | omega | (simp; done) | (simp; omega)) _))
   exact ((HM.out.below.trans (HB3.out.mono (by omega))).alloc (by omega) _).trans (HB4.out.mono (by simp; omega))
end Go.Proofs.YtoimjnmhinfbkaaGreatDoor

namespace Go.Proofs.YtoimjnmhinfbkaaGreatDoor
open Go.RowKit
set_option maxRecDepth 100000
section
variable {w W : World} {k : Int} {t : Bool} {x : ByteArray} {A : Option Addr} {n ca : Nat} {B : Option Addr} {cb : Nat} {ns : List ByteArray}
end
theorem _root_.Go.World.ownsRow.far {w w' : World} {base : Nat} {e : TypeId} {size : Nat} {v : Value} {n : Nat} {xs : List Value} (h : w.ownsRow base e size v n xs) (far : ∀ b, v.ownBlock = some b → w'.heap[b]? = w.heap[b]?) : w'.ownsRow base e size v n xs := by
 obtain ⟨hl, ⟨rfl, rfl⟩ | ⟨g, cap, cur, rfl, hb, hg, hn, hm, hc, ht⟩⟩ := h
 ·exact ⟨hl, .inl ⟨rfl, rfl⟩⟩
 ·exact ⟨hl, .inr ⟨g, cap, cur, rfl, hb, (far g (by simp [Value.ownBlock])).trans hg, hn, hm, hc, ht⟩⟩
end Go.Proofs.YtoimjnmhinfbkaaGreatDoor

namespace Go.Proofs.YtoimjnmhinfbkaaGreatDoor
open Go.RowKit
set_option maxRecDepth 100000
section
variable {P : Program} {md : Region.Mode} {ops : Array Oper} {Q : Exit → Act → World → Prop} {S : World → Prop} {W : World} {c : Nat}
/-- number c waits for number i. -/
def waits (md : Region.Mode) (ops : Array Oper) (c i : Nat) : Bool := match ops[c]? with | some oc => oc.after.any (fun e => Region.binds md e && e.on == i) | none => false
end
end Go.Proofs.YtoimjnmhinfbkaaGreatDoor

namespace Go.Proofs.YtoimjnmhinfbkaaGreatDoor
open Go.RowKit
set_option maxRecDepth 100000
/-- a region of a code by its number. -/
noncomputable def inCode (n : Nat) : Code → Option (Array Oper)
 | .region id ops _ => if id == n then some ops else none
 | .seq a b => (inCode n a).or (inCode n b)
 | .cond _ a b => (inCode n a).or (inCode n b)
 | .block _ b => inCode n b
 | .loop b => inCode n b
 | .scope b => inCode n b
 | .rangeFunc _ _ a b => (inCode n a).or (inCode n b)
 | _ => none
theorem ev_same {a : Act} {d : Nat} {v : Value} (h : d < a.tmps.size) : (a.put (some d) v).eval (.tmp d) = v := by
 simp [Act.put, Act.eval, h]
theorem ev_ne {a : Act} {d k : Nat} {v x : Value} (hk : d ≠ k) (h : a.eval (.tmp k) = x) : (a.put (some d) v).eval (.tmp k) = x := by
 rw [← h]; simp [Act.put, Act.eval, hk, Array.getD]; split <;> simp_all [Array.getElem_setIfInBounds]
theorem put_size {a : Act} {d : Option Nat} {v : Value} : (a.put d v).tmps.size = a.tmps.size := by
 cases d <;> simp [Act.put]
section
variable {ρ : Operand → Value} {w : World} {o : Oper}
end
theorem run_moved {ρ : Operand → Value} {w : World} {o : Oper} {x : Operand} {v : Value} (ho : o.op = .move x) (h : ρ x = v) : (execOp ρ o).run Tryz.prog w = .ok (.value v) w := by
 unfold execOp; rw [ho]; simp only [h]; rfl
end Go.Proofs.YtoimjnmhinfbkaaGreatDoor

namespace Go.Proofs.YtoimjnmhinfbkaaGreatDoor
open Go.RowKit
set_option maxRecDepth 100000
/-! A region that draws its order, by facts: each operation leaves a fact on its slot and the world; no order is looked at. -/
/-- what is listed has all that it waits for. -/
def Downed (md : Region.Mode) (ops : Array Oper) (L : Array Bool) : Prop := ∀ c i, waits md ops c i = true → L.getD c false = true → L.getD i false = true
/-- each operation waits for earlier ones alone. -/
def topoB (md : Region.Mode) (ops : Array Oper) : Bool := (List.range ops.size).all fun c => match ops[c]? with
 | some o => o.after.all fun e => !Region.binds md e || decide (e.on < c)
 | none => true
/-- fact i speaks of slot sl i: the slot that i writes; who writes the slot of another one's fact is waited for by it. -/
def apartB (md : Region.Mode) (ops : Array Oper) (sl : Nat → Nat) : Bool := (List.range ops.size).all fun i => match (ops[i]?).bind (·.dst) with
 | some d => sl i == d && (List.range ops.size).all fun j => i == j || sl j != d || waits md ops j i
 | none => true
/-- no operation writes this slot. -/
def freeB (ops : Array Oper) (s : Nat) : Bool := (List.range ops.size).all fun i => (ops[i]?).bind (·.dst) != some s
theorem count_set (l : List Bool) : ∀ i, l.getD i true = false → (l.set i true).count false + 1 = l.count false := by
 induction l with
 | nil => intro i h; simp at h
 | cons b l ih =>
  intro i h
  cases i with
  | zero => simp at h; subst h; simp
  | succ i =>
   simp at h
   have := ih i (by simpa using h)
   cases b <;> simp [List.count_cons] <;> omega
theorem waits_of {md : Region.Mode} {ops : Array Oper} {c : Nat} {o : Oper} (ho : ops[c]? = some o) {e : Edge} (he : e ∈ o.after) (hb : Region.binds md e = true) : waits md ops c e.on = true := by
 unfold waits
 rw [ho]
 simp only [Array.any_eq_true, Bool.and_eq_true, beq_iff_eq]
 obtain ⟨k, hk, rfl⟩ := Array.mem_iff_getElem.1 he
 exact ⟨k, hk, hb, rfl⟩
theorem of_waits {md : Region.Mode} {ops : Array Oper} {c i : Nat} (h : waits md ops c i = true) : ∃ o e, ops[c]? = some o ∧ e ∈ o.after ∧ Region.binds md e = true ∧ e.on = i := by
 unfold waits at h
 split at h
 ·rename_i o ho
  obtain ⟨k, hk, hb⟩ := Array.any_eq_true.1 h
  simp only [Bool.and_eq_true, beq_iff_eq] at hb
  exact ⟨o, _, ho, Array.getElem_mem hk, hb.1, hb.2⟩
 ·cases h
section
variable {P : Program} {md : Region.Mode} {ops : Array Oper} {Q : Exit → Act → World → Prop}
theorem all_listed (ht : topoB md ops = true) {L : Array Bool} (hs : L.size = ops.size) (hr : Region.ready md ops L = []) : ∀ i, i < ops.size → L.getD i false = true := by
 intro i
 induction i using Nat.strongRecOn with
 | ind i ih =>
  intro hi
  have ho : ops[i]? = some ops[i] := Array.getElem?_eq_getElem hi
  cases h : L.getD i false with
  | true => rfl
  | false =>
   exfalso
   have hm : i ∈ Region.ready md ops L := by
    refine mem_ready.2 ⟨?_, _, ho, fun e he hb => ?_⟩
    ·simp [Array.getD, hs, hi] at h ⊢; exact h
    ·have h1 := List.all_eq_true.1 ht i (by simpa using hi)
     rw [ho] at h1
     simp only [Array.all_eq_true'] at h1
     have h2 := h1 e he
     simp [hb] at h2
     exact ih _ h2 (by omega)
   rw [hr] at hm
   cases hm
theorem any_facts (ht : topoB md ops = true) (St : Array Bool → Act → World → Prop)
  (hstep : ∀ i o, ops[i]? = some o → ∀ (L : Array Bool) a w, L.size = ops.size → L.getD i true = false → (∀ j, waits md ops i j = true → L.getD j false = true) → Downed md ops L → St L a w → wpOp P ops Q i (St (L.setIfInBounds i true)) a w)
  (hdone : ∀ L a w, (∀ i, i < ops.size → L.getD i false = true) → St L a w → Q .normal a w) :
  ∀ (fuel : Nat) (L : Array Bool) (a : Act) (w : World), L.size = ops.size → L.toList.count false ≤ fuel → Downed md ops L → St L a w → wpAny P md ops Q fuel L a w := by
 intro fuel
 induction fuel with
 | zero =>
  intro L a w hs hc hd hst
  have hall : ∀ i, i < ops.size → L.getD i false = true := fun i hi => by
   have hc0 : L.toList.count false = 0 := by omega
   have hne := List.count_eq_zero.1 hc0
   have hi' : i < L.size := by omega
   have hmem : L[i] ∈ L.toList := by simp
   have e : L[i] ≠ false := fun e => hne (e ▸ hmem)
   have e' : L[i] = true := by simpa using e
   rw [Array.getD_eq_getD_getElem?, Array.getElem?_eq_getElem hi']
   exact e'
  refine ⟨?_, hdone L a w hall hst⟩
  refine List.eq_nil_iff_forall_not_mem.2 fun i hi => ?_
  obtain ⟨h1, o, ho, -⟩ := mem_ready.1 hi
  have hi' := (Array.getElem?_eq_some_iff.1 ho).1
  have h2 := hall i hi'
  have hi2 : i < L.size := by omega
  simp [Array.getD, hi2] at h1 h2
  rw [h1] at h2
  cases h2
 | succ fuel ih =>
  intro L a w hs hc hd hst
  refine ⟨fun hr => hdone L a w (all_listed ht hs hr) hst, fun i hi => ?_⟩
  obtain ⟨h1, o, ho, hb⟩ := mem_ready.1 hi
  refine wpOp_mono (fun a' w' h' => ih _ a' w' (by simpa using hs) ?_ ?_ h') (hstep i o ho L a w hs h1 (fun j hj => ?_) hd hst)
  ·have h1' : L.toList.getD i true = false := by rw [← h1]; simp [Array.getD_eq_getD_getElem?, List.getD]
   have := count_set L.toList i h1'
   rw [Array.toList_setIfInBounds]
   omega
  ·intro c j hw hc
   by_cases hcj : c = i
   ·subst hcj
    obtain ⟨o', e, ho', he, hbe, rfl⟩ := of_waits hw
    rw [ho] at ho'
    cases ho'
    have := hb e he hbe
    by_cases hei : e.on = c
    ·rw [hei] at this
     have hlt : c < L.size := by have := (Array.getElem?_eq_some_iff.1 ho).1; omega
     simp [Array.getD, hlt] at h1 this
     rw [h1] at this
     cases this
    ·rw [getD_set_ne false (fun e' => hei e'.symm)]; exact this
   ·rw [getD_set_ne false (fun e' => hcj e'.symm)] at hc
    have h3 := hd c j hw hc
    by_cases hji : j = i
    ·subst hji
     have hlt : j < L.size := by have := (Array.getElem?_eq_some_iff.1 ho).1; omega
     simp [Array.getD, hlt]
    ·rw [getD_set_ne false (fun e' => hji e'.symm)]; exact h3
  ·obtain ⟨o', e, ho', he, hbe, rfl⟩ := of_waits hj
   rw [ho] at ho'
   cases ho'
   exact hb e he hbe
/-- the state: what holds of the world; the frame but for the region's slots; each listed operation's fact on its slot. -/
structure Facts (ops : Array Oper) (sl : Nat → Nat) (J : Array Bool → World → Prop) (R : Nat → Value → World → Prop) (a0 : Act) (L : Array Bool) (a : Act) (w : World) : Prop where
 world : J L w
 defers : a.defers = a0.defers
 size : a.tmps.size = a0.tmps.size
 rest : ∀ s, freeB ops s = true → a.eval (.tmp s) = a0.eval (.tmp s)
 got : ∀ i, L.getD i false = true → R i (a.eval (.tmp (sl i))) w
/-- behind operation i: its value, its fact; the others' facts stand. -/
def Made (sl : Nat → Nat) (J : Array Bool → World → Prop) (R : Nat → Value → World → Prop) (L : Array Bool) (i : Nat) (o : Oper) (a : Act) (w : World) (a' : Act) (w' : World) : Prop :=
 ∃ v, a' = a.put o.dst v ∧ (∀ d, o.dst = some d → R i v w') ∧ (o.dst = none → R i (a.eval (.tmp (sl i))) w') ∧ J (L.setIfInBounds i true) w' ∧ ∀ j, j ≠ i → L.getD j false = true → ∀ u, R j u w → R j u w'
theorem any_made {sl : Nat → Nat} {J : Array Bool → World → Prop} {R : Nat → Value → World → Prop} (ht : topoB md ops = true) (hap : apartB md ops sl = true) (a0 : Act) (hsl : ∀ i d : Nat, (ops[i]?).bind (·.dst) = some d → d < a0.tmps.size)
  (hstep : ∀ i o, ops[i]? = some o → ∀ (L : Array Bool) a w, L.size = ops.size → L.getD i true = false → (∀ j, waits md ops i j = true → L.getD j false = true) → Downed md ops L → Facts ops sl J R a0 L a w → wpOp P ops Q i (Made sl J R L i o a w) a w)
  (hdone : ∀ L a w, (∀ i, i < ops.size → L.getD i false = true) → Facts ops sl J R a0 L a w → Q .normal a w) (w : World) (hJ : J (Array.replicate ops.size false) w) :
  wpAny P md ops Q ops.size (Array.replicate ops.size false) a0 w := by
 refine any_facts ht (Facts ops sl J R a0) (fun i o ho L a w hs h1 hdep hd hst => ?_) hdone _ _ _ _ (by simp) (by rw [Array.toList_replicate, List.count_replicate_self]; exact Nat.le_refl _) (fun c i _ hc => by simp [Array.getD] at hc) ⟨hJ, rfl, rfl, fun _ _ => rfl, fun i hi => by simp [Array.getD] at hi⟩
 have hil : i < ops.size := (Array.getElem?_eq_some_iff.1 ho).1
 refine wpOp_mono ?_ (hstep i o ho L a w hs h1 hdep hd hst)
 rintro a' w' ⟨v, rfl, hR, hR0, hJ', hk⟩
 obtain ⟨-, g2, g3, g4, g5⟩ := hst
 have hod : (ops[i]?).bind (·.dst) = o.dst := by rw [ho]; rfl
 have hai := List.all_eq_true.1 hap i (by simpa using hil)
 rw [hod] at hai
 refine ⟨hJ', ?_, ?_, fun s hs' => ?_, fun j hj => ?_⟩
 ·cases hd' : o.dst <;> exact g2
 ·rw [put_size]; exact g3
 ·have := List.all_eq_true.1 hs' i (by simpa using hil)
  rw [hod] at this
  cases hd' : o.dst with
  | none => exact g4 s hs'
  | some d =>
   rw [hd'] at this
   exact ev_ne (by simpa using this) (g4 s hs')
 ·by_cases hji : j = i
  ·subst hji
   cases hd' : o.dst with
   | none => exact hR0 hd'
   | some d =>
    rw [hd'] at hai
    simp only [Bool.and_eq_true, beq_iff_eq] at hai
    rw [hai.1]
    have he : (a.put (some d) v).eval (.tmp d) = v := ev_same (by rw [g3]; exact hsl j d (hod.trans hd'))
    rw [he]
    exact hR d hd'
  ·rw [getD_set_ne false (fun e => hji e.symm)] at hj
   have h5 := hk j hji hj _ (g5 j hj)
   cases hd' : o.dst with
   | none => exact h5
   | some d =>
    rw [hd'] at hai
    simp only [Bool.and_eq_true, beq_iff_eq] at hai
    have hjl : j < ops.size := by
     rw [← hs]
     rcases Nat.lt_or_ge j L.size with h | h
     ·exact h
     ·simp [Array.getD, Nat.not_lt.2 h] at hj
    have h6 := List.all_eq_true.1 hai.2 j (by simpa using hjl)
    simp only [Bool.or_eq_true, beq_iff_eq, bne_iff_ne] at h6
    rcases h6 with (h6 | h6) | h6
    ·exact absurd h6.symm hji
    ·have he : (a.put (some d) v).eval (.tmp (sl j)) = a.eval (.tmp (sl j)) := ev_ne (fun e => h6 e.symm) rfl
     rw [he]
     exact h5
    ·exfalso
     have h7 := hd j i h6 hj
     have hlt : i < L.size := by omega
     simp [Array.getD, hlt] at h1 h7
     rw [h1] at h7
     cases h7
theorem op_value {i : Nat} {o : Oper} {K : Act → World → Prop} {a : Act} {w w' : World} {v : Value} (ho : ops[i]? = some o) (hg : o.guard = none) (hr : (execOp a.eval o).run P w = .ok (.value v) w') (h : K (a.put o.dst v) w') : wpOp P ops Q i K a w := by
 unfold wpOp
 have hw : Region.wanted o (yielded ops a.tmps) = true := by unfold Region.wanted; rw [hg]
 simp only [ho, hw, if_true]
 refine .inl ?_
 unfold Oper.wp
 rw [hr, Oper.upon_value]
 exact h
theorem op_skip {i : Nat} {o : Oper} {K : Act → World → Prop} {a : Act} {w w' : World} (ho : ops[i]? = some o) (hg : o.guard = none) (hr : (execOp a.eval o).run P w = .ok .skip w') (h : K (a.put o.dst undef) w') : wpOp P ops Q i K a w := by
 unfold wpOp
 have hw : Region.wanted o (yielded ops a.tmps) = true := by unfold Region.wanted; rw [hg]
 simp only [ho, hw, if_true]
 refine .inl ?_
 unfold Oper.wp
 rw [hr, Oper.upon_skip]
 exact h
theorem op_call {i : Nat} {o : Oper} {K : Act → World → Prop} {a : Act} {w w' : World} {f : FuncId} {args : Array Value} (ho : ops[i]? = some o) (hg : o.guard = none) (hr : (execOp a.eval o).run P w = .ok (.enter f args) w') (h : Calls P f args w' fun e w'' => ∃ v, e = .returned v ∧ K (a.put o.dst v) w'') : wpOp P ops Q i K a w := by
 unfold wpOp
 have hw : Region.wanted o (yielded ops a.tmps) = true := by unfold Region.wanted; rw [hg]
 simp only [ho, hw, if_true]
 refine .inl ?_
 unfold Oper.wp
 rw [hr, Oper.upon_enter]
 refine Calls.mono h ?_
 rintro e w'' ⟨v, rfl, hk⟩
 exact hk
end
/-- a frame is told by its slots. -/
theorem act_ext {a b : Act} (hd : a.defers = b.defers) (hs : a.tmps.size = b.tmps.size) (h : ∀ s, s < a.tmps.size → a.eval (.tmp s) = b.eval (.tmp s)) : a = b := by
 cases a; cases b
 simp only at hd hs h
 subst hd
 congr 1
 refine Array.ext hs fun i h1 h2 => ?_
 have := h i h1
 simpa [Act.eval, Array.getD, h1, h2] using this
end Go.Proofs.YtoimjnmhinfbkaaGreatDoor

namespace Go.Proofs.YtoimjnmhinfbkaaGreatDoor
open Go.RowKit
set_option maxRecDepth 100000
/-- a world that has grown, nothing else. -/
def Ext (w w' : World) : Prop := w.heap.size ≤ w'.heap.size ∧ ∀ b, b < w.heap.size → w'.heap[b]? = w.heap[b]?
theorem Ext.of_below {w w' : World} (h : Below w.heap.size w w') : Ext w w' := ⟨h.size, fun b hb => h.block b hb⟩
theorem Ext.alloc (w : World) (o : Obj) : Ext w (w.alloc o) := ⟨by simp, fun b hb => alloc_before hb⟩
theorem own_ext {w w' : World} {base e size n : Nat} {v : Value} {xs : List Value} (h : w.ownsRow base e size v n xs) (hx : Ext w w') : w'.ownsRow base e size v n xs :=
 h.far fun b hb => hx.2 b (World.ownsRow.lt h b hb).2
theorem blk_ext {w w' : World} {b : Nat} {c : Obj} (h : w.heap[b]? = some c) (hx : Ext w w') : w'.heap[b]? = some c := by
 have hlt : b < w.heap.size := by
  rcases Nat.lt_or_ge b w.heap.size with h1 | h1
  ·exact h1
  ·rw [Array.getElem?_eq_none h1] at h; cases h
 exact (hx.2 b hlt).trans h
noncomputable def opAt (ops : Array Oper) (i : Nat) : Oper := ops.getD i default
section
variable {sl : Nat → Nat} {J : Array Bool → World → Prop} {R : Nat → Value → World → Prop} {L : Array Bool} {i : Nat} {o : Oper} {a : Act} {w w' : World}
theorem made_val {v : Value} {d : Nat} (hd : o.dst = some d) (hR : R i v w') (hJ : J (L.setIfInBounds i true) w') (hk : ∀ j, j ≠ i → L.getD j false = true → ∀ u, R j u w → R j u w') : Made sl J R L i o a w (a.put o.dst v) w' :=
 ⟨v, rfl, fun _ _ => hR, fun h => by (rw [hd] at h; cases h), hJ, hk⟩
theorem made_skip {v : Value} (hd : o.dst = none) (hR : R i (a.eval (.tmp (sl i))) w') (hJ : J (L.setIfInBounds i true) w') (hk : ∀ j, j ≠ i → L.getD j false = true → ∀ u, R j u w → R j u w') : Made sl J R L i o a w (a.put o.dst v) w' :=
 ⟨v, rfl, fun d h => by (rw [hd] at h; cases h), fun _ => hR, hJ, hk⟩
end
/-- the form in which a region's law is used. -/
theorem region_made {id : Nat} {ops : Array Oper} {n : Nat} {sl : Nat → Nat} {J : Array Bool → World → Prop} {R : Nat → Value → World → Prop} {Q : Exit → Act → World → Prop} {a0 : Act} {w : World} (hn : ops.size = n) (ht : topoB .any ops = true) (hap : apartB .any ops sl = true)
  (hm : ops.all (fun o => match o.dst with | some d => decide (d < a0.tmps.size) | none => true) = true)
  (hstep : ∀ i, i < n → ∀ (L : Array Bool) a w, L.size = n → L.getD i true = false → (∀ j, waits .any ops i j = true → L.getD j false = true) → Downed .any ops L → Facts ops sl J R a0 L a w → ops[i]? = some (opAt ops i) → wpOp Tryz.prog ops Q i (Made sl J R L i (opAt ops i) a w) a w)
  (hJ : J (Array.replicate n false) w.drew)
  (hdone : ∀ L a w, (∀ i, i < n → L.getD i false = true) → Facts ops sl J R a0 L a w → Q .normal a w) : (Code.region id ops true).wp Tryz.prog Q a0 w := by
 subst hn
 refine wp_region_any (by kernel_rfl) (any_made ht hap a0 (fun i d h => ?_) (fun i o ho L a w hs h1 hdep hd hst => ?_) hdone _ hJ)
 ·cases ho : ops[i]? with
  | none => rw [ho] at h; cases h
  | some o =>
   rw [ho] at h
   have h1 := (Array.all_eq_true'.1 hm) o (Array.mem_of_getElem? ho)
   simp only [Option.bind_some] at h
   rw [h] at h1
   simpa using h1
 ·have hil : i < ops.size := (Array.getElem?_eq_some_iff.1 ho).1
  have e : o = opAt ops i := by unfold opAt; rw [Array.getD_eq_getD_getElem?, ho]; rfl
  subst e
  exact hstep i hil L a w hs h1 hdep hd hst ho
end Go.Proofs.YtoimjnmhinfbkaaGreatDoor

namespace Go.Proofs.YtoimjnmhinfbkaaGreatDoor
open Go.RowKit
set_option maxRecDepth 100000
/-! numbers of 32 bits. -/
abbrev U (x : BitVec 32) : Value := .int .u32 (x.toNat : Int)
theorem wrap_u32n (n : Nat) : IntKind.u32.wrap (n : Int) = ((n % 4294967296 : Nat) : Int) := by
 rw [IntKind.wrap_u32]; omega
theorem ofInt_toNat (x : BitVec 32) : BitVec.ofInt 32 (x.toNat : Int) = x := by
 apply BitVec.eq_of_toNat_eq
 simp [BitVec.toNat_ofInt]
theorem bits_back (op : BinOp) (x y r : BitVec 32) (h : bits op .u32 (x.toNat : Int) (y.toNat : Int) = IntKind.u32.wrap (r.toNat : Int)) : bits op .u32 (x.toNat : Int) (y.toNat : Int) = (r.toNat : Int) := by
 rw [h, wrap_u32n, Nat.mod_eq_of_lt r.isLt]
section
variable {ρ : Operand → Value} {w : World} {o : Oper} {a b : Operand} {x y : BitVec 32}
theorem bits_xor32 : bits .xor .u32 (x.toNat : Int) (y.toNat : Int) = ((x ^^^ y).toNat : Int) := by
 refine bits_back _ _ _ _ ?_
 unfold bits
 simp only [IntKind.bits]
 rw [ofInt_toNat, ofInt_toNat]; rfl
theorem bits_and32 : bits .and .u32 (x.toNat : Int) (y.toNat : Int) = ((x &&& y).toNat : Int) := by
 refine bits_back _ _ _ _ ?_
 unfold bits
 simp only [IntKind.bits]
 rw [ofInt_toNat, ofInt_toNat]; rfl
theorem bits_or32 : bits .or .u32 (x.toNat : Int) (y.toNat : Int) = ((x ||| y).toNat : Int) := by
 refine bits_back _ _ _ _ ?_
 unfold bits
 simp only [IntKind.bits]
 rw [ofInt_toNat, ofInt_toNat]; rfl
theorem run_xor32 (ho : o.op = .binOp .xor 184 a b 184) (h1 : ρ a = U x) (h2 : ρ b = U y) : (execOp ρ o).run Tryz.prog w = .ok (.value (U (x ^^^ y))) w := by
 unfold execOp; rw [ho]; simp only [h1, h2]
 have h := bits_xor32 (x := x) (y := y)
 unfold U
 rw [← h]
 go_simp
theorem run_and32 (ho : o.op = .binOp .and 184 a b 184) (h1 : ρ a = U x) (h2 : ρ b = U y) : (execOp ρ o).run Tryz.prog w = .ok (.value (U (x &&& y))) w := by
 unfold execOp; rw [ho]; simp only [h1, h2]
 have h := bits_and32 (x := x) (y := y)
 unfold U
 rw [← h]
 go_simp
theorem run_or32 (ho : o.op = .binOp .or 184 a b 184) (h1 : ρ a = U x) (h2 : ρ b = U y) : (execOp ρ o).run Tryz.prog w = .ok (.value (U (x ||| y))) w := by
 unfold execOp; rw [ho]; simp only [h1, h2]
 have h := bits_or32 (x := x) (y := y)
 unfold U
 rw [← h]
 go_simp
theorem run_add32 (ho : o.op = .binOp .add 184 a b 184) (h1 : ρ a = U x) (h2 : ρ b = U y) : (execOp ρ o).run Tryz.prog w = .ok (.value (U (x + y))) w := by
 have h : IntKind.u32.wrap ((x.toNat : Int) + (y.toNat : Int)) = ((x + y).toNat : Int) := by
  rw [← Int.natCast_add, wrap_u32n, BitVec.toNat_add]
 unfold execOp; rw [ho]; simp only [h1, h2]
 unfold U
 rw [← h]
 clear h h1 h2
 go_simp
theorem run_shl32 {k : Nat} (hk : k < 33) (ho : o.op = .binOp .shl 184 a b 118) (h1 : ρ a = U x) (h2 : ρ b = .int .u64 (k : Int)) : (execOp ρ o).run Tryz.prog w = .ok (.value (U (x <<< k))) w := by
 have h : IntKind.u32.wrap ((x.toNat : Int) * 2 ^ k) = ((x <<< k).toNat : Int) := by
  rw [show ((x.toNat : Int) * 2 ^ k) = ((x.toNat * 2 ^ k : Nat) : Int) by simp, wrap_u32n, BitVec.toNat_shiftLeft, Nat.shiftLeft_eq]
 unfold execOp; rw [ho]; simp only [h1, h2]
 unfold U
 rw [← h]
 clear h h1 h2
 go_simp
theorem run_shr32 {k : Nat} (hk : k < 33) (ho : o.op = .binOp .shr 184 a b 118) (h1 : ρ a = U x) (h2 : ρ b = .int .u64 (k : Int)) : (execOp ρ o).run Tryz.prog w = .ok (.value (U (x >>> k))) w := by
 have h : (x.toNat : Int) / 2 ^ k = ((x >>> k).toNat : Int) := by
  rw [BitVec.toNat_ushiftRight, Nat.shiftRight_eq_div_pow]; simp
 unfold execOp; rw [ho]; simp only [h1, h2]
 unfold U
 rw [← h]
 clear h h1 h2
 go_simp
theorem run_not32 (ho : o.op = .unOp .xor 184 a) (h1 : ρ a = U x) : (execOp ρ o).run Tryz.prog w = .ok (.value (U (~~~x))) w := by
 have h : bits .xor .u32 (if IntKind.u32.signed = true then -1 else IntKind.u32.max) (x.toNat : Int) = ((~~~x).toNat : Int) := by
  have h1 : (if IntKind.u32.signed = true then -1 else IntKind.u32.max) = (((BitVec.allOnes 32).toNat : Nat) : Int) := by decide
  rw [h1, bits_xor32, BitVec.allOnes_xor]
 unfold execOp; rw [ho]; simp only [h1]
 unfold U
 rw [← h]
 clear h h1
 go_simp
theorem run_conv32 {z : Nat} (hz : z < 256) (ho : o.op = .convert 5 184 a) (h1 : ρ a = .int .u8 (z : Int)) : (execOp ρ o).run Tryz.prog w = .ok (.value (U (BitVec.ofNat 32 z))) w := by
 have h : IntKind.u32.wrap (z : Int) = ((BitVec.ofNat 32 z).toNat : Int) := by rw [wrap_u32n, BitVec.toNat_ofNat]
 unfold execOp; rw [ho]; simp only [h1]
 unfold U
 rw [← h]
 clear h h1
 go_simp
end
end Go.Proofs.YtoimjnmhinfbkaaGreatDoor

namespace Go.Proofs.YtoimjnmhinfbkaaGreatDoor
open Go.RowKit
set_option maxRecDepth 100000
/-- turned right. -/
def rotr (x : BitVec 32) (n : Nat) : BitVec 32 := (x >>> n) ||| (x <<< (32 - n))
theorem shl_int (x : BitVec 32) (k : Nat) : IntKind.u32.wrap ((x.toNat : Int) * 2 ^ k) = ((x <<< k).toNat : Int) := by
 rw [show ((x.toNat : Int) * 2 ^ k) = ((x.toNat * 2 ^ k : Nat) : Int) by simp, wrap_u32n, BitVec.toNat_shiftLeft, Nat.shiftLeft_eq]
theorem shr_int (x : BitVec 32) (k : Nat) : (x.toNat : Int) / 2 ^ k = ((x >>> k).toNat : Int) := by
 rw [BitVec.toNat_ushiftRight, Nat.shiftRight_eq_div_pow]; simp
theorem rl_2 (x : BitVec 32) (w : World) : Calls Tryz.prog 206 #[U x, .int .i64 (-2)] w fun e w' => e = .returned (U (rotr x 2)) ∧ w = w' := by
 have h1 := shl_int x 30
 have h2 := shr_int x 2
 have hb := bits_or32 (x := x <<< 30) (y := x >>> 2)
 have hr : rotr x 2 = x <<< 30 ||| x >>> 2 := BitVec.or_comm _ _
 rw [← hr, ← h1, ← h2] at hb
 simp only [Int.reducePow, IntKind.wrap_u32] at hb
 have HB := Lib.hid hb
 have hk : bits .and .u64 (IntKind.u64.wrap (-2)) 31 = 30 := by decide
 clear h1 h2 hb hr
 go_enter Tryz.func206, Tryz.ntmps206
 go_wp2
 go_ret
 exact ⟨congrArg (fun z => Ending.returned (.int .u32 z)) HB.out, rfl⟩
theorem turn_2 (x : BitVec 32) (w : World) : Calls Tryz.prog 198 #[U x, .int .i64 2] w fun e w' => e = .returned (U (rotr x 2)) ∧ w = w' := by
 go_enter Tryz.func198, Tryz.ntmps198
 go_wp2_with fail
 refine (rl_2 x _).mono ?_
 rintro e w' ⟨rfl, rfl⟩
 go_wp2
 go_ret
 exact ⟨rfl, rfl⟩
theorem rl_6 (x : BitVec 32) (w : World) : Calls Tryz.prog 206 #[U x, .int .i64 (-6)] w fun e w' => e = .returned (U (rotr x 6)) ∧ w = w' := by
 have h1 := shl_int x 26
 have h2 := shr_int x 6
 have hb := bits_or32 (x := x <<< 26) (y := x >>> 6)
 have hr : rotr x 6 = x <<< 26 ||| x >>> 6 := BitVec.or_comm _ _
 rw [← hr, ← h1, ← h2] at hb
 simp only [Int.reducePow, IntKind.wrap_u32] at hb
 have HB := Lib.hid hb
 have hk : bits .and .u64 (IntKind.u64.wrap (-6)) 31 = 26 := by decide
 clear h1 h2 hb hr
 go_enter Tryz.func206, Tryz.ntmps206
 go_wp2
 go_ret
 exact ⟨congrArg (fun z => Ending.returned (.int .u32 z)) HB.out, rfl⟩
theorem turn_6 (x : BitVec 32) (w : World) : Calls Tryz.prog 198 #[U x, .int .i64 6] w fun e w' => e = .returned (U (rotr x 6)) ∧ w = w' := by
 go_enter Tryz.func198, Tryz.ntmps198
 go_wp2_with fail
 refine (rl_6 x _).mono ?_
 rintro e w' ⟨rfl, rfl⟩
 go_wp2
 go_ret
 exact ⟨rfl, rfl⟩
theorem rl_7 (x : BitVec 32) (w : World) : Calls Tryz.prog 206 #[U x, .int .i64 (-7)] w fun e w' => e = .returned (U (rotr x 7)) ∧ w = w' := by
 have h1 := shl_int x 25
 have h2 := shr_int x 7
 have hb := bits_or32 (x := x <<< 25) (y := x >>> 7)
 have hr : rotr x 7 = x <<< 25 ||| x >>> 7 := BitVec.or_comm _ _
 rw [← hr, ← h1, ← h2] at hb
 simp only [Int.reducePow, IntKind.wrap_u32] at hb
 have HB := Lib.hid hb
 have hk : bits .and .u64 (IntKind.u64.wrap (-7)) 31 = 25 := by decide
 clear h1 h2 hb hr
 go_enter Tryz.func206, Tryz.ntmps206
 go_wp2
 go_ret
 exact ⟨congrArg (fun z => Ending.returned (.int .u32 z)) HB.out, rfl⟩
theorem turn_7 (x : BitVec 32) (w : World) : Calls Tryz.prog 198 #[U x, .int .i64 7] w fun e w' => e = .returned (U (rotr x 7)) ∧ w = w' := by
 go_enter Tryz.func198, Tryz.ntmps198
 go_wp2_with fail
 refine (rl_7 x _).mono ?_
 rintro e w' ⟨rfl, rfl⟩
 go_wp2
 go_ret
 exact ⟨rfl, rfl⟩
theorem rl_11 (x : BitVec 32) (w : World) : Calls Tryz.prog 206 #[U x, .int .i64 (-11)] w fun e w' => e = .returned (U (rotr x 11)) ∧ w = w' := by
 have h1 := shl_int x 21
 have h2 := shr_int x 11
 have hb := bits_or32 (x := x <<< 21) (y := x >>> 11)
 have hr : rotr x 11 = x <<< 21 ||| x >>> 11 := BitVec.or_comm _ _
 rw [← hr, ← h1, ← h2] at hb
 simp only [Int.reducePow, IntKind.wrap_u32] at hb
 have HB := Lib.hid hb
 have hk : bits .and .u64 (IntKind.u64.wrap (-11)) 31 = 21 := by decide
 clear h1 h2 hb hr
 go_enter Tryz.func206, Tryz.ntmps206
 go_wp2
 go_ret
 exact ⟨congrArg (fun z => Ending.returned (.int .u32 z)) HB.out, rfl⟩
theorem turn_11 (x : BitVec 32) (w : World) : Calls Tryz.prog 198 #[U x, .int .i64 11] w fun e w' => e = .returned (U (rotr x 11)) ∧ w = w' := by
 go_enter Tryz.func198, Tryz.ntmps198
 go_wp2_with fail
 refine (rl_11 x _).mono ?_
 rintro e w' ⟨rfl, rfl⟩
 go_wp2
 go_ret
 exact ⟨rfl, rfl⟩
theorem rl_13 (x : BitVec 32) (w : World) : Calls Tryz.prog 206 #[U x, .int .i64 (-13)] w fun e w' => e = .returned (U (rotr x 13)) ∧ w = w' := by
 have h1 := shl_int x 19
 have h2 := shr_int x 13
 have hb := bits_or32 (x := x <<< 19) (y := x >>> 13)
 have hr : rotr x 13 = x <<< 19 ||| x >>> 13 := BitVec.or_comm _ _
 rw [← hr, ← h1, ← h2] at hb
 simp only [Int.reducePow, IntKind.wrap_u32] at hb
 have HB := Lib.hid hb
 have hk : bits .and .u64 (IntKind.u64.wrap (-13)) 31 = 19 := by decide
 clear h1 h2 hb hr
 go_enter Tryz.func206, Tryz.ntmps206
 go_wp2
 go_ret
 exact ⟨congrArg (fun z => Ending.returned (.int .u32 z)) HB.out, rfl⟩
theorem turn_13 (x : BitVec 32) (w : World) : Calls Tryz.prog 198 #[U x, .int .i64 13] w fun e w' => e = .returned (U (rotr x 13)) ∧ w = w' := by
 go_enter Tryz.func198, Tryz.ntmps198
 go_wp2_with fail
 refine (rl_13 x _).mono ?_
 rintro e w' ⟨rfl, rfl⟩
 go_wp2
 go_ret
 exact ⟨rfl, rfl⟩
theorem rl_17 (x : BitVec 32) (w : World) : Calls Tryz.prog 206 #[U x, .int .i64 (-17)] w fun e w' => e = .returned (U (rotr x 17)) ∧ w = w' := by
 have h1 := shl_int x 15
 have h2 := shr_int x 17
 have hb := bits_or32 (x := x <<< 15) (y := x >>> 17)
 have hr : rotr x 17 = x <<< 15 ||| x >>> 17 := BitVec.or_comm _ _
 rw [← hr, ← h1, ← h2] at hb
 simp only [Int.reducePow, IntKind.wrap_u32] at hb
 have HB := Lib.hid hb
 have hk : bits .and .u64 (IntKind.u64.wrap (-17)) 31 = 15 := by decide
 clear h1 h2 hb hr
 go_enter Tryz.func206, Tryz.ntmps206
 go_wp2
 go_ret
 exact ⟨congrArg (fun z => Ending.returned (.int .u32 z)) HB.out, rfl⟩
theorem turn_17 (x : BitVec 32) (w : World) : Calls Tryz.prog 198 #[U x, .int .i64 17] w fun e w' => e = .returned (U (rotr x 17)) ∧ w = w' := by
 go_enter Tryz.func198, Tryz.ntmps198
 go_wp2_with fail
 refine (rl_17 x _).mono ?_
 rintro e w' ⟨rfl, rfl⟩
 go_wp2
 go_ret
 exact ⟨rfl, rfl⟩
theorem rl_18 (x : BitVec 32) (w : World) : Calls Tryz.prog 206 #[U x, .int .i64 (-18)] w fun e w' => e = .returned (U (rotr x 18)) ∧ w = w' := by
 have h1 := shl_int x 14
 have h2 := shr_int x 18
 have hb := bits_or32 (x := x <<< 14) (y := x >>> 18)
 have hr : rotr x 18 = x <<< 14 ||| x >>> 18 := BitVec.or_comm _ _
 rw [← hr, ← h1, ← h2] at hb
 simp only [Int.reducePow, IntKind.wrap_u32] at hb
 have HB := Lib.hid hb
 have hk : bits .and .u64 (IntKind.u64.wrap (-18)) 31 = 14 := by decide
 clear h1 h2 hb hr
 go_enter Tryz.func206, Tryz.ntmps206
 go_wp2
 go_ret
 exact ⟨congrArg (fun z => Ending.returned (.int .u32 z)) HB.out, rfl⟩
theorem turn_18 (x : BitVec 32) (w : World) : Calls Tryz.prog 198 #[U x, .int .i64 18] w fun e w' => e = .returned (U (rotr x 18)) ∧ w = w' := by
 go_enter Tryz.func198, Tryz.ntmps198
 go_wp2_with fail
 refine (rl_18 x _).mono ?_
 rintro e w' ⟨rfl, rfl⟩
 go_wp2
 go_ret
 exact ⟨rfl, rfl⟩
theorem rl_19 (x : BitVec 32) (w : World) : Calls Tryz.prog 206 #[U x, .int .i64 (-19)] w fun e w' => e = .returned (U (rotr x 19)) ∧ w = w' := by
 have h1 := shl_int x 13
 have h2 := shr_int x 19
 have hb := bits_or32 (x := x <<< 13) (y := x >>> 19)
 have hr : rotr x 19 = x <<< 13 ||| x >>> 19 := BitVec.or_comm _ _
 rw [← hr, ← h1, ← h2] at hb
 simp only [Int.reducePow, IntKind.wrap_u32] at hb
 have HB := Lib.hid hb
 have hk : bits .and .u64 (IntKind.u64.wrap (-19)) 31 = 13 := by decide
 clear h1 h2 hb hr
 go_enter Tryz.func206, Tryz.ntmps206
 go_wp2
 go_ret
 exact ⟨congrArg (fun z => Ending.returned (.int .u32 z)) HB.out, rfl⟩
theorem turn_19 (x : BitVec 32) (w : World) : Calls Tryz.prog 198 #[U x, .int .i64 19] w fun e w' => e = .returned (U (rotr x 19)) ∧ w = w' := by
 go_enter Tryz.func198, Tryz.ntmps198
 go_wp2_with fail
 refine (rl_19 x _).mono ?_
 rintro e w' ⟨rfl, rfl⟩
 go_wp2
 go_ret
 exact ⟨rfl, rfl⟩
theorem rl_22 (x : BitVec 32) (w : World) : Calls Tryz.prog 206 #[U x, .int .i64 (-22)] w fun e w' => e = .returned (U (rotr x 22)) ∧ w = w' := by
 have h1 := shl_int x 10
 have h2 := shr_int x 22
 have hb := bits_or32 (x := x <<< 10) (y := x >>> 22)
 have hr : rotr x 22 = x <<< 10 ||| x >>> 22 := BitVec.or_comm _ _
 rw [← hr, ← h1, ← h2] at hb
 simp only [Int.reducePow, IntKind.wrap_u32] at hb
 have HB := Lib.hid hb
 have hk : bits .and .u64 (IntKind.u64.wrap (-22)) 31 = 10 := by decide
 clear h1 h2 hb hr
 go_enter Tryz.func206, Tryz.ntmps206
 go_wp2
 go_ret
 exact ⟨congrArg (fun z => Ending.returned (.int .u32 z)) HB.out, rfl⟩
theorem turn_22 (x : BitVec 32) (w : World) : Calls Tryz.prog 198 #[U x, .int .i64 22] w fun e w' => e = .returned (U (rotr x 22)) ∧ w = w' := by
 go_enter Tryz.func198, Tryz.ntmps198
 go_wp2_with fail
 refine (rl_22 x _).mono ?_
 rintro e w' ⟨rfl, rfl⟩
 go_wp2
 go_ret
 exact ⟨rfl, rfl⟩
theorem rl_25 (x : BitVec 32) (w : World) : Calls Tryz.prog 206 #[U x, .int .i64 (-25)] w fun e w' => e = .returned (U (rotr x 25)) ∧ w = w' := by
 have h1 := shl_int x 7
 have h2 := shr_int x 25
 have hb := bits_or32 (x := x <<< 7) (y := x >>> 25)
 have hr : rotr x 25 = x <<< 7 ||| x >>> 25 := BitVec.or_comm _ _
 rw [← hr, ← h1, ← h2] at hb
 simp only [Int.reducePow, IntKind.wrap_u32] at hb
 have HB := Lib.hid hb
 have hk : bits .and .u64 (IntKind.u64.wrap (-25)) 31 = 7 := by decide
 clear h1 h2 hb hr
 go_enter Tryz.func206, Tryz.ntmps206
 go_wp2
 go_ret
 exact ⟨congrArg (fun z => Ending.returned (.int .u32 z)) HB.out, rfl⟩
theorem turn_25 (x : BitVec 32) (w : World) : Calls Tryz.prog 198 #[U x, .int .i64 25] w fun e w' => e = .returned (U (rotr x 25)) ∧ w = w' := by
 go_enter Tryz.func198, Tryz.ntmps198
 go_wp2_with fail
 refine (rl_25 x _).mono ?_
 rintro e w' ⟨rfl, rfl⟩
 go_wp2
 go_ret
 exact ⟨rfl, rfl⟩
end Go.Proofs.YtoimjnmhinfbkaaGreatDoor

namespace Go.Proofs.YtoimjnmhinfbkaaGreatDoor
open Go.RowKit
set_option maxRecDepth 100000
theorem own_ne_blk {w : World} {base e size n : Nat} {v : Value} {xs : List Value} (h : w.ownsRow base e size v n xs) {b t : Nat} {c : Array Value} (hb : w.heap[b]? = some (.cells c t (0, 0))) (hne : e ≠ t ∨ c.size < n * size) : v.ownBlock ≠ some b := by
 obtain ⟨-, ⟨rfl, -⟩ | ⟨g, cap, cur, rfl, -, hg, hn, -, hc, -⟩⟩ := h
 ·simp [Value.ownBlock]
 ·intro e'
  obtain rfl : g = b := by simpa [Value.ownBlock] using e'
  rw [hg] at hb
  simp only [Option.some.injEq, Obj.cells.injEq] at hb
  obtain ⟨rfl, rfl, -⟩ := hb
  rcases hne with h | h
  ·exact h rfl
  ·have := Nat.mul_le_mul_right size hn
   omega
end Go.Proofs.YtoimjnmhinfbkaaGreatDoor

namespace Go.Proofs.YtoimjnmhinfbkaaGreatDoor
open Go.RowKit
set_option maxRecDepth 100000
theorem unset {L : Array Bool} {i j : Nat} (h : (L.setIfInBounds i true).getD j false = false) : L.getD j false = false := by
 by_cases hij : i = j
 ·subst hij
  rcases Nat.lt_or_ge i L.size with h1 | h1
  ·simp [Array.getD, h1] at h
  ·simp [Array.getD, Nat.not_lt.2 h1]
 ·rwa [getD_set_ne false hij] at h
theorem set_same {L : Array Bool} {i : Nat} (h : i < L.size) : (L.setIfInBounds i true).getD i false = true := by simp [Array.getD, h]
theorem unl {L : Array Bool} {i : Nat} (h : L.getD i true = false) : L.getD i false = false := by
 rcases Nat.lt_or_ge i L.size with h1 | h1
 ·simp [Array.getD, h1] at h ⊢; exact h
 ·simp [Array.getD, Nat.not_lt.2 h1]
theorem unlisted {md : Region.Mode} {ops : Array Oper} {L : Array Bool} {c i n : Nat} (_hs : L.size = n) (hd : Downed md ops L) (h1 : L.getD i true = false) (hw : waits md ops c i = true) : L.getD c false = false := by
 cases h : L.getD c false with
 | false => rfl
 | true =>
  have h2 := hd c i hw h
  rw [unl h1] at h2
  cases h2
section
variable {w : World} {base e size n : Nat} {v : Value} {xs : List Value}
end
theorem cell_set {w : World} {b o o' : Nat} {u v : Value} (h : w.cell? ⟨b, o, none⟩ = some v) (hne : o ≠ o') : (w.setCell ⟨b, o', none⟩ u).cell? ⟨b, o, none⟩ = some v := by
 rw [← h]
 simp [go_sem, hne]
end Go.Proofs.YtoimjnmhinfbkaaGreatDoor

namespace Go.Proofs.YtoimjnmhinfbkaaGreatDoor
open Go.RowKit
set_option maxRecDepth 100000
theorem getD_listed (n k i : Nat) : ((List.range n).map fun j => decide (j < k)).toArray.getD i false = decide (i < k ∧ i < n) := by
 rcases Nat.lt_or_ge i n with h | h
 ·simp [Array.getD, h]
 ·simp [Array.getD, Nat.not_lt.2 h]
theorem set_listed (n k : Nat) : (((List.range n).map fun j => decide (j < k)).toArray).setIfInBounds k true = ((List.range n).map fun j => decide (j < k + 1)).toArray := by
 apply Array.ext
 ·simp
 ·intro i h1 h2
  simp only [Array.size_setIfInBounds, List.size_toArray, List.length_map, List.length_range] at h1
  rw [Array.getElem_setIfInBounds (by simpa using h1)]
  split
  ·rename_i e; subst e; simp
  ·rename_i e
   simp only [List.getElem_toArray, List.getElem_map, List.getElem_range, decide_eq_decide]
   omega
/-- the plain order is one of them. -/
theorem ops_of_any {P : Program} {md : Region.Mode} {ops : Array Oper} {Q : Exit → Act → World → Prop} (ht : topoB md ops = true) : ∀ (m k : Nat) (a : Act) (w : World), k + m = ops.size → wpAny P md ops Q m (((List.range ops.size).map fun j => decide (j < k)).toArray) a w → wpOps P ops Q (List.range' k m) a w := by
 intro m
 induction m with
 | zero =>
  intro k a w hk h
  exact h.2
 | succ m ih =>
  intro k a w hk h
  rw [List.range'_succ, wpOps_cons]
  have hkn : k < ops.size := by omega
  have hready : k ∈ Region.ready md ops (((List.range ops.size).map fun j => decide (j < k)).toArray) := by
   refine mem_ready.2 ⟨by simp [Array.getD, hkn], _, Array.getElem?_eq_getElem hkn, fun e he hb => ?_⟩
   have h1 := List.all_eq_true.1 ht k (by simpa using hkn)
   rw [Array.getElem?_eq_getElem hkn] at h1
   have h2 := (Array.all_eq_true'.1 h1) e he
   simp [hb] at h2
   rw [getD_listed]
   simp
   omega
  refine wpOp_mono (fun a' w' h' => ih (k + 1) a' w' (by omega) ?_) (h.2 k hready)
  rw [← set_listed]
  exact h'
theorem region_seq {id : Nat} {ops : Array Oper} {Q : Exit → Act → World → Prop} {a : Act} {w : World} (ht : topoB .any ops = true) (h : wpAny Tryz.prog .any ops Q ops.size (Array.replicate ops.size false) a w) : (Code.region id ops false).wp Tryz.prog Q a w := by
 refine wp_region ?_
 rw [List.range_eq_range']
 refine ops_of_any ht ops.size 0 a w (by omega) ?_
 have e : ((List.range ops.size).map fun j => decide (j < 0)).toArray = Array.replicate ops.size false := by
  apply Array.ext
  ·simp
  ·intro i h1 h2; simp
 rw [e]
 exact h
theorem region_made_seq {id : Nat} {ops : Array Oper} {n : Nat} {sl : Nat → Nat} {J : Array Bool → World → Prop} {R : Nat → Value → World → Prop} {Q : Exit → Act → World → Prop} {a0 : Act} {w : World} (hn : ops.size = n) (ht : topoB .any ops = true) (hap : apartB .any ops sl = true)
  (hm : ops.all (fun o => match o.dst with | some d => decide (d < a0.tmps.size) | none => true) = true)
  (hstep : ∀ i, i < n → ∀ (L : Array Bool) a w, L.size = n → L.getD i true = false → (∀ j, waits .any ops i j = true → L.getD j false = true) → Downed .any ops L → Facts ops sl J R a0 L a w → ops[i]? = some (opAt ops i) → wpOp Tryz.prog ops Q i (Made sl J R L i (opAt ops i) a w) a w)
  (hJ : J (Array.replicate n false) w)
  (hdone : ∀ L a w, (∀ i, i < n → L.getD i false = true) → Facts ops sl J R a0 L a w → Q .normal a w) : (Code.region id ops false).wp Tryz.prog Q a0 w := by
 subst hn
 refine region_seq ht (any_made ht hap a0 (fun i d h => ?_) (fun i o ho L a w hs h1 hdep hd hst => ?_) hdone _ hJ)
 ·cases ho : ops[i]? with
  | none => rw [ho] at h; cases h
  | some o =>
   rw [ho] at h
   have h1 := (Array.all_eq_true'.1 hm) o (Array.mem_of_getElem? ho)
   simp only [Option.bind_some] at h
   rw [h] at h1
   simpa using h1
 ·have hil : i < ops.size := (Array.getElem?_eq_some_iff.1 ho).1
  have e : o = opAt ops i := by unfold opAt; rw [Array.getD_eq_getD_getElem?, ho]; rfl
  subst e
  exact hstep i hil L a w hs h1 hdep hd hst ho
end Go.Proofs.YtoimjnmhinfbkaaGreatDoor
