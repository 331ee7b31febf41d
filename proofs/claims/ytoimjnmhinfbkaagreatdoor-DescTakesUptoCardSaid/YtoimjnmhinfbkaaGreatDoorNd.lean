import Derived.Test.YtoimjnmhinfbkaaGreatDoorNc
import Derived.Deep.MidRow
namespace Go.Proofs.YtoimjnmhinfbkaaGreatDoor
open Go.RowKit
set_option maxRecDepth 100000

theorem cut_prefix (l p : List UInt8) (w : World) : Calls Tryz.prog 133 #[.string ⟨l.toArray⟩, .string ⟨p.toArray⟩] w fun e w' => e = .returned (.tuple #[.string ⟨(Lib.trimPrefix l p).toArray⟩, .bool (Lib.hasPrefix l p)]) ∧ w = w' :=
  (Tryz.strings_CutPrefix ⟨l.toArray⟩ ⟨p.toArray⟩ w).mono fun e w' ⟨h1, h2⟩ => ⟨by simpa using h1, h2.symm⟩

theorem trim_le (l p : List UInt8) : (Lib.trimPrefix l p).length ≤ l.length := by
  unfold Lib.trimPrefix
  split
  · simp
  · exact Nat.le_refl _

def shaP : List UInt8 := [115, 104, 97, 50, 53, 54, 58]
/-- 32 noughts. -/
def zero32 : List Value := List.replicate 32 (.int .u8 0)

def ParseRes (w : World) (l : List UInt8) (e : Ending) (w' : World) : Prop :=
  ((nameB l = true ∧ (unhexV (Lib.trimPrefix l shaP)).length = 32 ∧ e = .returned (.tuple #[.agg (unhexV (Lib.trimPrefix l shaP)).toArray, .nilIface])) ∨ (nameB l = false ∧ e = .returned (.tuple #[.agg zero32.toArray, .iface 35 (.int .i64 2)]))) ∧ Below w.heap.size w w'

/-- the world with the result's own block: told by what is known of it. -/
structure Has32 (w W : World) : Prop where
  size : W.heap.size = w.heap.size + 1
  below : Below w.heap.size w W
  there : W.there w.heap.size 0 32

theorem has32 (w : World) : Has32 w (w.alloc (.cells #[.int .u8 0, .int .u8 0, .int .u8 0, .int .u8 0, .int .u8 0, .int .u8 0, .int .u8 0, .int .u8 0, .int .u8 0, .int .u8 0, .int .u8 0, .int .u8 0, .int .u8 0, .int .u8 0, .int .u8 0, .int .u8 0, .int .u8 0, .int .u8 0, .int .u8 0, .int .u8 0, .int .u8 0, .int .u8 0, .int .u8 0, .int .u8 0, .int .u8 0, .int .u8 0, .int .u8 0, .int .u8 0, .int .u8 0, .int .u8 0, .int .u8 0, .int .u8 0] 177)) := by
  have h0 := heap_alloc_new w (.cells #[.int .u8 0, .int .u8 0, .int .u8 0, .int .u8 0, .int .u8 0, .int .u8 0, .int .u8 0, .int .u8 0, .int .u8 0, .int .u8 0, .int .u8 0, .int .u8 0, .int .u8 0, .int .u8 0, .int .u8 0, .int .u8 0, .int .u8 0, .int .u8 0, .int .u8 0, .int .u8 0, .int .u8 0, .int .u8 0, .int .u8 0, .int .u8 0, .int .u8 0, .int .u8 0, .int .u8 0, .int .u8 0, .int .u8 0, .int .u8 0, .int .u8 0, .int .u8 0] 177)
  refine ⟨by simp, (Below.refl _ _).alloc (Nat.le_refl _) _, fun j hj => ⟨?_, ?_⟩⟩
  · rw [Nat.zero_add, cell_of_row _ _ j _ _ (0, 0) h0]
    rw [Array.getElem?_eq_getElem (by simpa using hj)]; rfl
  · unfold World.frozen?
    rw [h0]
    simp

theorem there_below {w w1 : World} {b o n : Nat} (h : w.there b o n) (hb : w1.heap[b]? = w.heap[b]?) : w1.there b o n := fun j hj => by
  rw [cell_of_heap hb, World.frozen?_of_block (a := ⟨b, o + j, none⟩) hb]; exact h j hj

theorem hu177 : Tryz.prog.underlying 177 = some (.array 32 5) := by kernel_rfl
theorem at177 (g c : Nat) (w : World) : (Instr.arrayAt 177 (.slice (some ⟨g, 0, none⟩) 32 c)).run Tryz.prog w = .ok (.pointer (some ⟨g, 0, none⟩)) w := by
  unfold Instr.arrayAt
  rw [Sem.run_bind, run_underlying hu177 w]
  rfl
theorem hi177 : (Tryz.prog.info? 177).map (·.size) = some 32 := by kernel_rfl
theorem byte1 : ∀ v ∈ zero32, v.oneCell' = true := by decide
theorem all_ones (l : List Value) (h : ∀ v ∈ l, v.oneCell' = true) : l.toArray.all (·.oneCell') = true := by
  rw [Array.all_eq_true_iff_forall_mem]
  intro v hv
  exact h v (by simpa using hv)
theorem ones32 : (#[.int .u8 0, .int .u8 0, .int .u8 0, .int .u8 0, .int .u8 0, .int .u8 0, .int .u8 0, .int .u8 0, .int .u8 0, .int .u8 0, .int .u8 0, .int .u8 0, .int .u8 0, .int .u8 0, .int .u8 0, .int .u8 0, .int .u8 0, .int .u8 0, .int .u8 0, .int .u8 0, .int .u8 0, .int .u8 0, .int .u8 0, .int .u8 0, .int .u8 0, .int .u8 0, .int .u8 0, .int .u8 0, .int .u8 0, .int .u8 0, .int .u8 0, .int .u8 0] : Array Value).all (·.oneCell') = true := all_ones _ (by decide)

theorem results108 (tmps : Array Value) (w : World) (b : Nat) (cs : List Value) (x : Value) (h2 : tmps.getD 2 undef = .pointer (some ⟨b, 0, none⟩)) (h3 : tmps.getD 3 undef = x) (hc : w.rangeAt b 0 cs) (hl : cs.length = 32) :
    (results Tryz.f108 tmps).run Tryz.prog w = .ok (.tuple #[.agg cs.toArray, x]) w := by
  have hr := run_loadVar_mid (P := Tryz.prog) w b 0 177 cs (.array 32 5) hc hu177 rfl (by rw [hl]; exact hi177)
  rw [Array.getD_eq_getD_getElem?] at h2 h3
  simp [results, Tryz.results108, h2, h3, hr, asAddr, Sem.run_bind]

theorem parse_end_no {w W w1 : World} {l : List UInt8} (HN : nameB l = false) (H3 : Has32 w W) (hb1 : Below W.heap.size W w1) (hth : w1.there w.heap.size 0 32) (tmps : Array Value) (ds : List Deferred)
    (h2 : tmps.getD 2 undef = .pointer (some ⟨w.heap.size, 0, none⟩)) (h3 : tmps.getD 3 undef = .iface 35 (.int .i64 2)) (hd : ds = []) :
    bodyPost Tryz.prog Tryz.f108 (ParseRes w l) .ret ⟨tmps, ds⟩ (w1.setCells w.heap.size 0 [.int .u8 0, .int .u8 0, .int .u8 0, .int .u8 0, .int .u8 0, .int .u8 0, .int .u8 0, .int .u8 0, .int .u8 0, .int .u8 0, .int .u8 0, .int .u8 0, .int .u8 0, .int .u8 0, .int .u8 0, .int .u8 0, .int .u8 0, .int .u8 0, .int .u8 0, .int .u8 0, .int .u8 0, .int .u8 0, .int .u8 0, .int .u8 0, .int .u8 0, .int .u8 0, .int .u8 0, .int .u8 0, .int .u8 0, .int .u8 0, .int .u8 0, .int .u8 0]) := by
  have hs := H3.size
  exact bodyPost_ret (results108 tmps _ w.heap.size zero32 _ h2 h3 (World.rangeAt_setCells_same _ _ _ _ (fun j hj => hth j (by simpa using hj))) rfl) hd
    ⟨.inr ⟨HN, rfl⟩, setCells_below _ (Nat.le_refl _) _ _ (H3.below.trans (hb1.mono (by omega)))⟩

theorem parse_end_yes {w W w1 : World} {l : List UInt8} (HN : nameB l = true) (hx : (unhexV (Lib.trimPrefix l shaP)).length = 32) (H3 : Has32 w W) (hb1 : Below W.heap.size W w1) (hth : w1.there w.heap.size 0 32) (tmps : Array Value) (ds : List Deferred)
    (h2 : tmps.getD 2 undef = .pointer (some ⟨w.heap.size, 0, none⟩)) (h3 : tmps.getD 3 undef = .nilIface) (hd : ds = []) :
    bodyPost Tryz.prog Tryz.f108 (ParseRes w l) .ret ⟨tmps, ds⟩ (w1.setCells w.heap.size 0 (unhexV (Lib.trimPrefix l shaP))) := by
  have hs := H3.size
  exact bodyPost_ret (results108 tmps _ w.heap.size (unhexV (Lib.trimPrefix l shaP)) _ h2 h3 (World.rangeAt_setCells_same _ _ _ _ (fun j hj => hth j (by omega))) hx) hd
    ⟨.inl ⟨HN, hx, rfl⟩, setCells_below _ (Nat.le_refl _) _ _ (H3.below.trans (hb1.mono (by omega)))⟩

set_option maxHeartbeats 1600000 in
theorem parse_pre (l : List UInt8) (w : World) (hl : l.length ≤ 1073741824) (hp : Lib.hasPrefix l shaP = false) : Calls Tryz.prog 108 #[.string ⟨l.toArray⟩] w (ParseRes w l) := by
  have hn : nameB l = (false && hexB (Lib.trimPrefix l shaP) && ((Lib.trimPrefix l shaP).length / 2 == 32)) := by rw [name_parts]; unfold shaP at hp ⊢; rw [hp]
  have HN := Lib.hid hn
  have HCP := Lib.hid (show ∀ W, Calls Tryz.prog 133 #[.string ⟨l.toArray⟩, .string ⟨#[115, 104, 97, 50, 53, 54, 58]⟩] W fun e w' => e = .returned (.tuple #[.string ⟨(Lib.trimPrefix l shaP).toArray⟩, .bool false]) ∧ W = w' from fun W => by rw [← hp]; exact cut_prefix l shaP W)
  have ht := trim_le l shaP
  generalize ht0 : Lib.trimPrefix l shaP = t at *
  have HT := Lib.hid ht0
  clear ht0
  clear hn hp
  have H32 := has32 w
  go_enter Tryz.func108, Tryz.ntmps108
  go_wp2_with fail
  generalize w.alloc (.cells #[.int .u8 0, .int .u8 0, .int .u8 0, .int .u8 0, .int .u8 0, .int .u8 0, .int .u8 0, .int .u8 0, .int .u8 0, .int .u8 0, .int .u8 0, .int .u8 0, .int .u8 0, .int .u8 0, .int .u8 0, .int .u8 0, .int .u8 0, .int .u8 0, .int .u8 0, .int .u8 0, .int .u8 0, .int .u8 0, .int .u8 0, .int .u8 0, .int .u8 0, .int .u8 0, .int .u8 0, .int .u8 0, .int .u8 0, .int .u8 0, .int .u8 0, .int .u8 0] 177) = W at *
  have H3 := Lib.hid H32
  have hsz := H3.out.size
  go_wp2_with (go_at_call 133; refine (HCP.out _).mono ?_; rintro e w' ⟨rfl, rfl⟩)
  refine (unhex_any t _ (by omega)).mono ?_
  rintro e w1 ⟨⟨hx, v, rfl, hown⟩ | ⟨hx, rfl⟩, hb1⟩
  · obtain ⟨A, c, rfl, hcc, hlen, hrr⟩ := own_row hown
    have hth := Lib.hid (there_below H3.out.there (hb1.block _ (by omega)))
    have HB1 := Lib.hid hb1
    have hno := Lib.hid (show nameB l = false by rw [HN.out]; rfl)
    clear hown hrr hlen hb1 hsz H32 hx
    go_wp2_with (refine wpList_store_mid (by rfl) 177 (.tmp 2) (.tmp 29) (by rfl) w.heap.size 0 #[.int .u8 0, .int .u8 0, .int .u8 0, .int .u8 0, .int .u8 0, .int .u8 0, .int .u8 0, .int .u8 0, .int .u8 0, .int .u8 0, .int .u8 0, .int .u8 0, .int .u8 0, .int .u8 0, .int .u8 0, .int .u8 0, .int .u8 0, .int .u8 0, .int .u8 0, .int .u8 0, .int .u8 0, .int .u8 0, .int .u8 0, .int .u8 0, .int .u8 0, .int .u8 0, .int .u8 0, .int .u8 0, .int .u8 0, .int .u8 0, .int .u8 0, .int .u8 0] (by rfl) (by rfl) hth.out hi177 ones32 ?_)
    exact parse_end_no hno.out H3.out HB1.out hth.out _ _ rfl rfl rfl
  · have hth := Lib.hid (there_below H3.out.there (hb1.block _ (by omega)))
    have HB1 := Lib.hid hb1
    have hno := Lib.hid (show nameB l = false by rw [HN.out, hx]; simp)
    clear hb1 hsz H32 hx
    go_wp2_with (refine wpList_store_mid (by rfl) 177 (.tmp 2) (.tmp 29) (by rfl) w.heap.size 0 #[.int .u8 0, .int .u8 0, .int .u8 0, .int .u8 0, .int .u8 0, .int .u8 0, .int .u8 0, .int .u8 0, .int .u8 0, .int .u8 0, .int .u8 0, .int .u8 0, .int .u8 0, .int .u8 0, .int .u8 0, .int .u8 0, .int .u8 0, .int .u8 0, .int .u8 0, .int .u8 0, .int .u8 0, .int .u8 0, .int .u8 0, .int .u8 0, .int .u8 0, .int .u8 0, .int .u8 0, .int .u8 0, .int .u8 0, .int .u8 0, .int .u8 0, .int .u8 0] (by rfl) (by rfl) hth.out hi177 ones32 ?_)
    exact parse_end_no hno.out H3.out HB1.out hth.out _ _ rfl rfl rfl

set_option maxHeartbeats 1600000 in
theorem parse_fig (l : List UInt8) (w : World) (hl : l.length ≤ 1073741824) (hp : Lib.hasPrefix l shaP = true) : Calls Tryz.prog 108 #[.string ⟨l.toArray⟩] w (ParseRes w l) := by
  have hn : nameB l = (true && hexB (Lib.trimPrefix l shaP) && ((Lib.trimPrefix l shaP).length / 2 == 32)) := by rw [name_parts]; unfold shaP at hp ⊢; rw [hp]
  have HN := Lib.hid hn
  have HCP := Lib.hid (show ∀ W, Calls Tryz.prog 133 #[.string ⟨l.toArray⟩, .string ⟨#[115, 104, 97, 50, 53, 54, 58]⟩] W fun e w' => e = .returned (.tuple #[.string ⟨(Lib.trimPrefix l shaP).toArray⟩, .bool true]) ∧ W = w' from fun W => by rw [← hp]; exact cut_prefix l shaP W)
  have ht := trim_le l shaP
  generalize ht0 : Lib.trimPrefix l shaP = t at *
  have HT := Lib.hid ht0
  clear ht0
  clear hn hp
  have H32 := has32 w
  go_enter Tryz.func108, Tryz.ntmps108
  go_wp2_with fail
  generalize w.alloc (.cells #[.int .u8 0, .int .u8 0, .int .u8 0, .int .u8 0, .int .u8 0, .int .u8 0, .int .u8 0, .int .u8 0, .int .u8 0, .int .u8 0, .int .u8 0, .int .u8 0, .int .u8 0, .int .u8 0, .int .u8 0, .int .u8 0, .int .u8 0, .int .u8 0, .int .u8 0, .int .u8 0, .int .u8 0, .int .u8 0, .int .u8 0, .int .u8 0, .int .u8 0, .int .u8 0, .int .u8 0, .int .u8 0, .int .u8 0, .int .u8 0, .int .u8 0, .int .u8 0] 177) = W at *
  have H3 := Lib.hid H32
  have hsz := H3.out.size
  go_wp2_with (go_at_call 133; refine (HCP.out _).mono ?_; rintro e w' ⟨rfl, rfl⟩)
  refine (unhex_any t _ (by omega)).mono ?_
  rintro e w1 ⟨⟨hx, v, rfl, hown⟩ | ⟨hx, rfl⟩, hb1⟩
  · obtain ⟨A, c, rfl, hcc, hlen, hrr⟩ := own_row hown
    have hth := Lib.hid (there_below H3.out.there (hb1.block _ (by omega)))
    have HB1 := Lib.hid hb1
    by_cases h32 : t.length / 2 = 32
    · obtain ⟨g, rfl, hg1, hg2, hrow, hfr⟩ := hrr.resolve_left (by rintro ⟨-, h0⟩; omega)
      have hyes := Lib.hid (show nameB l = true by rw [HN.out, hx]; simp [h32])
      rw [h32] at hlen hown hcc ⊢
      have HXL := Lib.hid (show (unhexV t).length = 32 by omega)
      have hrange := Lib.hid (show w1.rangeAt g 0 (unhexV t) from fun j v hv => by
        obtain ⟨hj, rfl⟩ := List.getElem?_eq_some_iff.1 hv
        exact hrow j hj)
      have hones := Lib.hid (unhexV_int t)
      have hat := at177 g c
      clear hown hrow hfr hlen hb1 hsz H32 hx h32
      go_wp2_with (first | (refine wpList_load_mid (by rfl) 177 (.tmp 32) (by rfl) g 0 (by rfl) (unhexV t) (.array 32 5) hrange.out hu177 rfl (by rw [HXL.out]; exact hi177) ?_) | (refine wpList_store_mid (by rfl) 177 (.tmp 2) (.tmp 33) (by rfl) w.heap.size 0 (unhexV t).toArray (by rfl) (by rfl) (by simpa [HXL.out] using hth.out) (by simpa [HXL.out] using hi177) (all_ones _ hones.out) ?_))
      exact HT.out ▸ parse_end_yes hyes.out (by rw [HT.out]; exact HXL.out) H3.out HB1.out hth.out _ _ rfl rfl rfl
    · have hno := Lib.hid (show nameB l = false by rw [HN.out]; simp [h32])
      have hne : (((t.length / 2 : Nat) : Int) != 32) = true := by simp; omega
      have hne2 : ((t.length : Int) / 2 != 32) = true := by simp; omega
      clear hown hrr hlen hb1 hsz H32 hx
      go_wp2_with (refine wpList_store_mid (by rfl) 177 (.tmp 2) (.tmp 29) (by rfl) w.heap.size 0 #[.int .u8 0, .int .u8 0, .int .u8 0, .int .u8 0, .int .u8 0, .int .u8 0, .int .u8 0, .int .u8 0, .int .u8 0, .int .u8 0, .int .u8 0, .int .u8 0, .int .u8 0, .int .u8 0, .int .u8 0, .int .u8 0, .int .u8 0, .int .u8 0, .int .u8 0, .int .u8 0, .int .u8 0, .int .u8 0, .int .u8 0, .int .u8 0, .int .u8 0, .int .u8 0, .int .u8 0, .int .u8 0, .int .u8 0, .int .u8 0, .int .u8 0, .int .u8 0] (by rfl) (by rfl) hth.out hi177 ones32 ?_)
      exact parse_end_no hno.out H3.out HB1.out hth.out _ _ rfl rfl rfl
  · have hth := Lib.hid (there_below H3.out.there (hb1.block _ (by omega)))
    have HB1 := Lib.hid hb1
    have hno := Lib.hid (show nameB l = false by rw [HN.out, hx]; simp)
    clear hb1 hsz H32 hx
    go_wp2_with (refine wpList_store_mid (by rfl) 177 (.tmp 2) (.tmp 29) (by rfl) w.heap.size 0 #[.int .u8 0, .int .u8 0, .int .u8 0, .int .u8 0, .int .u8 0, .int .u8 0, .int .u8 0, .int .u8 0, .int .u8 0, .int .u8 0, .int .u8 0, .int .u8 0, .int .u8 0, .int .u8 0, .int .u8 0, .int .u8 0, .int .u8 0, .int .u8 0, .int .u8 0, .int .u8 0, .int .u8 0, .int .u8 0, .int .u8 0, .int .u8 0, .int .u8 0, .int .u8 0, .int .u8 0, .int .u8 0, .int .u8 0, .int .u8 0, .int .u8 0, .int .u8 0] (by rfl) (by rfl) hth.out hi177 ones32 ?_)
    exact parse_end_no hno.out H3.out HB1.out hth.out _ _ rfl rfl rfl

end Go.Proofs.YtoimjnmhinfbkaaGreatDoor
