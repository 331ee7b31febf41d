import Derived.Test.YtoimjnmhinfbkaaGreatDoorS10
namespace Go.Proofs.YtoimjnmhinfbkaaGreatDoor
open Go.RowKit
set_option maxRecDepth 100000
theorem getD_listed (n k i : Nat) : ((List.range n).map fun j => decide (j < k)).toArray.getD i false = decide (i < k ∧ i < n) := by
  rcases Nat.lt_or_ge i n with h | h
  · simp [Array.getD, h]
  · simp [Array.getD, Nat.not_lt.2 h]
theorem set_listed (n k : Nat) : (((List.range n).map fun j => decide (j < k)).toArray).setIfInBounds k true = ((List.range n).map fun j => decide (j < k + 1)).toArray := by
  apply Array.ext
  · simp
  · intro i h1 h2
    simp only [Array.size_setIfInBounds, List.size_toArray, List.length_map, List.length_range] at h1
    rw [Array.getElem_setIfInBounds (by simpa using h1)]
    split
    · rename_i e; subst e; simp
    · rename_i e
      simp only [List.getElem_toArray, List.getElem_map, List.getElem_range, decide_eq_decide]
      omega
/-- the plain order is one of them. -/
theorem ops_of_any {P : Program} {md : Region.Mode} {ops : Array Oper} {Q : Exit → Act → World → Prop} (ht : topoB md ops = true) : ∀ (m k : Nat) (a : Act) (w : World), k + m = ops.size → wpAny P md ops Q m (((List.range ops.size).map fun j => decide (j < k)).toArray) a w → wpOps P ops Q (List.range' k m) a w := by
  intro m
  induction m with
  | zero =>
    intro k a w hk h
    exact h.2
  | succ m ih =>
    intro k a w hk h
    rw [List.range'_succ, wpOps_cons]
    have hkn : k < ops.size := by omega
    have hready : k ∈ Region.ready md ops (((List.range ops.size).map fun j => decide (j < k)).toArray) := by
      refine mem_ready.2 ⟨by simp [Array.getD, hkn], _, Array.getElem?_eq_getElem hkn, fun e he hb => ?_⟩
      have h1 := List.all_eq_true.1 ht k (by simpa using hkn)
      rw [Array.getElem?_eq_getElem hkn] at h1
      have h2 := (Array.all_eq_true'.1 h1) e he
      simp [hb] at h2
      rw [getD_listed]
      simp
      omega
    refine wpOp_mono (fun a' w' h' => ih (k + 1) a' w' (by omega) ?_) (h.2 k hready)
    rw [← set_listed]
    exact h'
theorem region_seq {id : Nat} {ops : Array Oper} {Q : Exit → Act → World → Prop} {a : Act} {w : World} (ht : topoB .any ops = true) (h : wpAny Tryz.prog .any ops Q ops.size (Array.replicate ops.size false) a w) : (Code.region id ops false).wp Tryz.prog Q a w := by
  refine wp_region ?_
  rw [List.range_eq_range']
  refine ops_of_any ht ops.size 0 a w (by omega) ?_
  have e : ((List.range ops.size).map fun j => decide (j < 0)).toArray = Array.replicate ops.size false := by
    apply Array.ext
    · simp
    · intro i h1 h2; simp
  rw [e]
  exact h
theorem region_made_seq {id : Nat} {ops : Array Oper} {n : Nat} {sl : Nat → Nat} {J : Array Bool → World → Prop} {R : Nat → Value → World → Prop} {Q : Exit → Act → World → Prop} {a0 : Act} {w : World} (hn : ops.size = n) (ht : topoB .any ops = true) (hap : apartB .any ops sl = true)
    (hm : ops.all (fun o => match o.dst with | some d => decide (d < a0.tmps.size) | none => true) = true)
    (hstep : ∀ i, i < n → ∀ (L : Array Bool) a w, L.size = n → L.getD i true = false → (∀ j, waits .any ops i j = true → L.getD j false = true) → Downed .any ops L → Facts ops sl J R a0 L a w → ops[i]? = some (opAt ops i) → wpOp Tryz.prog ops Q i (Made sl J R L i (opAt ops i) a w) a w)
    (hJ : J (Array.replicate n false) w)
    (hdone : ∀ L a w, (∀ i, i < n → L.getD i false = true) → Facts ops sl J R a0 L a w → Q .normal a w) : (Code.region id ops false).wp Tryz.prog Q a0 w := by
  subst hn
  refine region_seq ht (any_made ht hap a0 (fun i d h => ?_) (fun i o ho L a w hs h1 hdep hd hst => ?_) hdone _ hJ)
  · cases ho : ops[i]? with
    | none => rw [ho] at h; cases h
    | some o =>
      rw [ho] at h
      have h1 := (Array.all_eq_true'.1 hm) o (Array.mem_of_getElem? ho)
      simp only [Option.bind_some] at h
      rw [h] at h1
      simpa using h1
  · have hil : i < ops.size := (Array.getElem?_eq_some_iff.1 ho).1
    have e : o = opAt ops i := by unfold opAt; rw [Array.getD_eq_getD_getElem?, ho]; rfl
    subst e
    exact hstep i hil L a w hs h1 hdep hd hst ho
noncomputable def ops34_9 : Array Oper := (Tryz.f34.body.bind (inCode 9)).getD #[]
def sl34_9 : Nat → Nat
  | 0 => 44
  | 1 => 45
  | 2 => 46
  | 3 => 47
  | 4 => 48
  | 5 => 47
  | _ => 0
def R34_9 (B S0 b gN gU cN cU : Nat) (NS XS : List Value)  : Nat → Value → World → Prop
  | 0, v, w => v = .pointer (some ⟨b, 4, none⟩)
  | 1, v, w => v = .slice (some ⟨gN, 0, none⟩) 2 cN
  | 2, v, w => ∃ g c, v = .slice (some ⟨g, 0, none⟩) 1 c ∧ S0 ≤ g ∧ w.ownsRow S0 9 1 (.slice (some ⟨g, 0, none⟩) 1 c) 1 [.string ⟨#[118, 97, 114, 105, 97, 110, 116]⟩]
  | 3, v, w => ∃ g c, v = .slice (some ⟨g, 0, none⟩) 3 c ∧ (g = gN ∨ S0 ≤ g) ∧ w.ownsRow B 9 1 (.slice (some ⟨g, 0, none⟩) 3 c) 3 (NS ++ [.string ⟨#[118, 97, 114, 105, 97, 110, 116]⟩])
  | 4, v, w => v = .pointer (some ⟨b, 4, none⟩)
  | 5, v, w => w.cell? ⟨b, 4, none⟩ = some v
  | _, _, _ => True
theorem R34_9_ext {B S0 b gN gU cN cU : Nat} {NS XS : List Value}  {w w' : World} (hx : Ext w w') : ∀ j u, R34_9 B S0 b gN gU cN cU NS XS  j u w → R34_9 B S0 b gN gU cN cU NS XS  j u w'
  | 0, _, h => h
  | 1, _, h => h
  | 2, _, h => let ⟨g, c, e, h1, h2⟩ := h; ⟨g, c, e, h1, own_ext h2 hx⟩
  | 3, _, h => let ⟨g, c, e, h1, h2⟩ := h; ⟨g, c, e, h1, own_ext h2 hx⟩
  | 4, _, h => h
  | 5, _, h => cell_ext h hx
  | _ + 6, _, _ => trivial
def J34_9 (B : Nat) (w0 : World) (B S0 b gN gU cN cU : Nat) (NS XS : List Value) (L : Array Bool) (w : World) : Prop := Below B w0 w ∧ (∀ k, k < S0 → k ≠ b → k ≠ gN → k ≠ gU → w.heap[k]? = w0.heap[k]?) ∧ ∃ u nv, w.heap[b]? = some (.cells #[.int .i64 5, .bool false, .string ⟨#[]⟩, u, nv] 43 (0, 0)) ∧ (L.getD 5 false = false → nv = .slice (some ⟨gN, 0, none⟩) 2 cN) ∧ (True → u = .slice (some ⟨gU, 0, none⟩) 2 cU) ∧ (L.getD 3 false = false → w.ownsRow B 9 1 (.slice (some ⟨gN, 0, none⟩) 2 cN) 2 NS) ∧ (True → w.ownsRow B 43 5 (.slice (some ⟨gU, 0, none⟩) 2 cU) 2 XS)
theorem J34_9_any {B : Nat} {w0 : World} {S0 b gN gU cN cU : Nat} {NS XS : List Value} {L : Array Bool} (i : Nat) {w : World} (h : J34_9 B w0 B S0 b gN gU cN cU NS XS L w) : J34_9 B w0 B S0 b gN gU cN cU NS XS (L.setIfInBounds i true) w := by
  obtain ⟨h1, h2, u, nv, h3, h4, h5, h6, h7⟩ := h
  exact ⟨h1, h2, u, nv, h3, fun h => h4 (unset h), fun h => h5 h, fun h => h6 (unset h), fun h => h7 h⟩
theorem J34_9_le {B : Nat} {w0 : World} {S0 b gN gU cN cU : Nat} {NS XS : List Value} {L : Array Bool} {w : World} (hS : w0.heap.size = S0) (h : J34_9 B w0 B S0 b gN gU cN cU NS XS L w) : S0 ≤ w.heap.size := hS ▸ h.1.size
theorem J34_9_ext {B : Nat} {w0 : World} {S0 b gN gU cN cU : Nat} {NS XS : List Value} {L : Array Bool} (i : Nat) {w w' : World} (hS : w0.heap.size = S0) (h : J34_9 B w0 B S0 b gN gU cN cU NS XS L w) (hx : Ext w w') (hb : Below B w w') : J34_9 B w0 B S0 b gN gU cN cU NS XS (L.setIfInBounds i true) w' := by
  have hle := J34_9_le hS h
  obtain ⟨h1, h2, u, nv, h3, h4, h5, h6, h7⟩ := h
  exact ⟨h1.trans hb, fun k hk a b c => (hx.2 k (by omega)).trans (h2 k hk a b c), u, nv, blk_ext h3 hx, fun h => h4 (unset h), fun h => h5 h, fun h => own_ext (h6 (unset h)) hx, fun h => own_ext (h7 h) hx⟩
set_option maxHeartbeats 1600000 in
theorem reg34_9 {ops : Array Oper} (ho : ops = ops34_9) {Q : Exit → Act → World → Prop} {a0 : Act} {w0 : World} {B S0 b gN gU cN cU : Nat} {NS XS : List Value}  (hS : w0.heap.size = S0) (hBS : B ≤ S0) (hb : B ≤ b) (hbS : b < S0) (hbU : b ≠ gU) (hbox : w0.heap[b]? = some (.cells #[.int .i64 5, .bool false, .string ⟨#[]⟩, .slice (some ⟨gU, 0, none⟩) 2 cU, .slice (some ⟨gN, 0, none⟩) 2 cN] 43 (0, 0))) (hN : w0.ownsRow B 9 1 (.slice (some ⟨gN, 0, none⟩) 2 cN) 2 NS) (hU : w0.ownsRow B 43 5 (.slice (some ⟨gU, 0, none⟩) 2 cU) 2 XS)  (hs7 : a0.eval (.tmp 7) = .pointer (some ⟨b, 0, none⟩)) (hsz : a0.tmps.size = 70)
    (HK : ∀ L a w, J34_9 B w0 B S0 b gN gU cN cU NS XS L w → a.defers = a0.defers → a.tmps.size = 70 → (∀ s, freeB ops34_9 s = true → a.eval (.tmp s) = a0.eval (.tmp s)) → (∀ i, i < 6 → R34_9 B S0 b gN gU cN cU NS XS  i (a.eval (.tmp (sl34_9 i))) w) → Q .normal a w) : (Code.region 9 ops false).wp Tryz.prog Q a0 w0 := by
  subst ho
  refine region_made_seq (n := 6) (sl := sl34_9) (J := J34_9 B w0 B S0 b gN gU cN cU NS XS) (R := R34_9 B S0 b gN gU cN cU NS XS ) (by kernel_rfl) (by kernel_rfl) (by kernel_rfl) (by rw [hsz]; kernel_rfl) ?_ ⟨(Below.refl _ _), fun _ _ _ _ _ => rfl, _, _, hbox, fun _ => rfl, fun _ => rfl, fun _ => hN, fun _ => hU⟩ (fun L a w hall hf => HK L a w hf.world hf.defers (hf.size.trans hsz) hf.rest (fun i hi => hf.got i (hall i hi)))
  intro i hi L a w hs h1 hdep hd hst ho
  clear HK
  match i, hi, h1, hdep, ho with
  | 0, _, h1, hdep, ho =>
      have s7 := (hst.rest 7 (by kernel_rfl)).trans hs7
      have hr : (execOp a.eval (opAt ops34_9 0)).run Tryz.prog w = .ok (.value (.pointer (some ⟨b, 4, none⟩))) w := by
        clear hst hdep hd h1 hs ho
        generalize a.eval = ρ at s7 ⊢
        unfold execOp; rw [show (opAt ops34_9 0).op = .fieldAddr 43 (.tmp 7) 4 from by kernel_rfl]; try simp only [s7]
        go_simp
      exact op_value ho (by kernel_rfl) hr (made_val (d := 44) (by kernel_rfl) rfl (J34_9_any _ hst.world) (fun _ _ _ _ h => h))
  | 1, _, h1, hdep, ho =>
      obtain ⟨u, nv, hbx, hnv, hu, hoN, hoU⟩ := hst.world.2.2
      obtain rfl := hnv (unlisted hs hd h1 (show waits .any ops34_9 5 1 = true from (by kernel_rfl)))
      have cb := fun o => cell_of_row w b o _ 43 (0, 0) hbx
      clear hbx hu hoN hoU
      have g0 : a.eval (.tmp 44) = .pointer (some ⟨b, 4, none⟩) := hst.got 0 (hdep 0 (by kernel_rfl))
      have hr : (execOp a.eval (opAt ops34_9 1)).run Tryz.prog w = .ok (.value (.slice (some ⟨gN, 0, none⟩) 2 cN)) w := by
        clear hst hdep hd h1 hs ho
        generalize a.eval = ρ at g0 ⊢
        unfold execOp; rw [show (opAt ops34_9 1).op = .load 25 (.tmp 44) from by kernel_rfl]; try simp only [g0]
        go_simp
      exact op_value ho (by kernel_rfl) hr (made_val (d := 45) (by kernel_rfl) rfl (J34_9_any _ hst.world) (fun _ _ _ _ h => h))
  | 2, _, h1, hdep, ho =>
      have hr : (execOp a.eval (opAt ops34_9 2)).run Tryz.prog w = .ok (.value (.slice (some ⟨w.heap.size, 0, none⟩) 1 1)) (w.alloc (.cells #[.string ⟨#[118, 97, 114, 105, 97, 110, 116]⟩] 9)) := by
        clear hst hdep hd h1 hs ho
        have hk : ∀ v, a.eval (.const v) = v := fun _ => rfl; generalize a.eval = ρ at hk ⊢
        unfold execOp; rw [show (opAt ops34_9 2).op = .buildSlice 25 1 #[(0, .const (.string ⟨#[118, 97, 114, 105, 97, 110, 116]⟩))] from by kernel_rfl]; try simp only [hk]
        go_simp
      exact op_value ho (by kernel_rfl) hr (made_val (d := 46) (by kernel_rfl) (⟨_, _, rfl, J34_9_le hS hst.world, own_new [.string ⟨#[118, 97, 114, 105, 97, 110, 116]⟩] rfl (J34_9_le hS hst.world) (by decide)⟩) (J34_9_ext _ hS hst.world (Ext.alloc _ _) ((Below.refl _ _).alloc (Nat.le_trans hBS (J34_9_le hS hst.world)) _)) (fun j _ _ u h => R34_9_ext (Ext.alloc _ _) j u h))
  | 3, _, h1, hdep, ho =>
      obtain ⟨u, nv, hbx, hnv, hu, hoN, hoU⟩ := hst.world.2.2
      have hNw := hoN (unl h1)
      obtain ⟨gs, cs, e2, hgs, hos⟩ := hst.got 2 (hdep 2 (by kernel_rfl))
      have e1 : a.eval (.tmp 45) = .slice (some ⟨gN, 0, none⟩) 2 cN := hst.got 1 (hdep 1 (by kernel_rfl))
      obtain ⟨i9, hi9, hz9, hzz9, hzb9⟩ := info_parts info9
      have hgN : gN < S0 := by have := (World.ownsRow.lt hN gN rfl).2; omega
      have hBN : B ≤ gN := (World.ownsRow.lt hN gN rfl).1
      have hbN : b ≠ gN := fun e => own_ne_blk hNw hbx (.inl (by decide)) (by rw [e]; rfl)
      obtain ⟨curN, cN', hblkN⟩ := own_block hNw rfl
      have hle := J34_9_le hS hst.world
      refine op_append ho (by kernel_rfl) (wp_append_lies w (.tmp 45) (.tmp 46) 25 (show (opAt ops34_9 3).op = _ from (by kernel_rfl)) B 9 i9 (.string ⟨#[]⟩) 1 16 Tryz.underlying25 hi9 hz9 hzz9 hzb9 rfl (by decide) _ 2 NS e1 hNw ⟨gs, 0, none⟩ 1 cs [.string ⟨#[118, 97, 114, 105, 97, 110, 116]⟩] e2 rfl (hos.cells rfl) (by intro u hu; simp only [List.mem_cons, List.not_mem_nil, or_false] at hu; subst hu; rfl) (by decide) (by decide) (by decide) (by omega) _ rfl ?_)
      intro g cap w' ho' hgr hgg hlt
      have hgg2 : g = gN ∨ S0 ≤ g := by rcases hgg with h | h; exact .inl (by simpa [Value.ownBlock] using h.symm); exact .inr (by omega)
      refine made_val (d := 47) (by kernel_rfl) ⟨g, cap, rfl, hgg2, ho'⟩ ⟨hst.world.1.trans ⟨hgr.os, hgr.tape, hgr.output, hgr.size, fun k hk => hgr.block k (by omega) (by simp only [Value.ownBlock]; intro e; injection e; omega)⟩, fun k hk a b c => (hgr.block k (by omega) (by simp only [Value.ownBlock]; intro e; injection e; omega)).trans (hst.world.2.1 k hk a b c), u, nv, (hgr.block b (by omega) (by simp only [Value.ownBlock]; intro e; injection e; omega)).trans hbx, fun h => hnv (unset h), fun h => hu h, fun h => ?_, fun h => (hoU h).kept hgr (.inr (own_ne_own (hoU h) hNw rfl (by decide)))⟩ ?_
      · rw [set_same (by rw [hs]; decide)] at h; cases h
      intro j hj hL u h
      match j, hj, hL, h with
      | 0, _, _, h => exact (show _ = _ from h)
      | 1, _, _, h => exact (show _ = _ from h)
      | 2, _, _, h => exact (let ⟨g, c, e, h1, h2⟩ := h; ⟨g, c, e, h1, h2.kept hgr (.inr (fun e => by simp [Value.ownBlock] at e; omega))⟩)
      | 3, hj, _, _ => exact absurd rfl hj
      | 4, _, _, h => exact (show _ = _ from h)
      | 5, hj, hL, _ => exact absurd hL (by rw [(unlisted hs hd h1 (show waits .any ops34_9 5 3 = true from (by kernel_rfl)))]; decide)
      | _ + 6, _, _, _ => exact trivial
  | 4, _, h1, hdep, ho =>
      have s7 := (hst.rest 7 (by kernel_rfl)).trans hs7
      have hr : (execOp a.eval (opAt ops34_9 4)).run Tryz.prog w = .ok (.value (.pointer (some ⟨b, 4, none⟩))) w := by
        clear hst hdep hd h1 hs ho
        generalize a.eval = ρ at s7 ⊢
        unfold execOp; rw [show (opAt ops34_9 4).op = .fieldAddr 43 (.tmp 7) 4 from by kernel_rfl]; try simp only [s7]
        go_simp
      exact op_value ho (by kernel_rfl) hr (made_val (d := 48) (by kernel_rfl) rfl (J34_9_any _ hst.world) (fun _ _ _ _ h => h))
  | 5, _, h1, hdep, ho =>
      obtain ⟨u, nv, hbx, hnv, hu, hoN, hoU⟩ := hst.world.2.2
      have hle := J34_9_le hS hst.world
      have e1 : a.eval (.tmp 48) = .pointer (some ⟨b, 4, none⟩) := hst.got 4 (hdep 4 (by kernel_rfl))
      obtain ⟨g, c, e2, hgg, hog⟩ := hst.got 3 (hdep 3 (by kernel_rfl))
      have e2' : a.eval (.tmp 47) = .slice (some ⟨g, 0, none⟩) 3 c := e2
      have hr := run_cell25 (x := .tmp 48) (y := .tmp 47) (show (opAt ops34_9 5).op = _ from (by kernel_rfl)) e1 e2' hbx (by simp)
      have hbN : b ≠ gN := fun e => own_ne_blk hN hbox (.inl (by decide)) (by rw [e]; rfl)
      refine op_skip ho (by kernel_rfl) hr (made_skip (by kernel_rfl) (show World.cell? _ _ = some (a.eval (.tmp 47)) from (by rw [e2']; exact (cell_of_row _ b 4 _ 43 (0, 0) (blk_set hbx 4 _)).trans rfl)) ⟨hst.world.1.setCell (by simpa using hb) _, fun k hk a b c => (Below.heap_setCell _ _ _ k a).trans (hst.world.2.1 k hk a b c), _, _, (blk_set hbx 4 _), fun h => ?_, fun h => hu h, fun h => set_own (hoN (unset h)) (fun e => hbN (by simpa [Value.ownBlock] using e.symm)), fun h => set_own (hoU h) (fun e => hbU (by simpa [Value.ownBlock] using e.symm))⟩ ?_)
      · rw [set_same (by rw [hs]; decide)] at h; cases h
      intro j hj hL u h
      match j, hj, hL, h with
      | 0, _, _, h => exact (show _ = _ from h)
      | 1, _, _, h => exact (show _ = _ from h)
      | 2, _, _, h => exact (let ⟨g, c, e, h1, h2⟩ := h; ⟨g, c, e, h1, set_own h2 (own_ne_blk h2 hbx (.inl (by decide)))⟩)
      | 3, _, _, h => exact (let ⟨g, c, e, h1, h2⟩ := h; ⟨g, c, e, h1, set_own h2 (own_ne_blk h2 hbx (.inl (by decide)))⟩)
      | 4, _, _, h => exact (show _ = _ from h)
      | 5, hj, _, _ => exact absurd rfl hj
      | _ + 6, _, _, _ => exact trivial
  | k + 6, hi, _, _, _ => exact absurd hi (by omega)
set_option maxHeartbeats 1600000 in
theorem done34_9 {ops : Array Oper} (ho : ops = ops34_9) {Q : Exit → Act → World → Prop} {a0 : Act} {w0 : World} {B S0 b gN gU cN cU : Nat} {NS XS : List Value}  (hS : w0.heap.size = S0) (hBS : B ≤ S0) (hb : B ≤ b) (hbS : b < S0) (hbU : b ≠ gU) (hbox : w0.heap[b]? = some (.cells #[.int .i64 5, .bool false, .string ⟨#[]⟩, .slice (some ⟨gU, 0, none⟩) 2 cU, .slice (some ⟨gN, 0, none⟩) 2 cN] 43 (0, 0))) (hN : w0.ownsRow B 9 1 (.slice (some ⟨gN, 0, none⟩) 2 cN) 2 NS) (hU : w0.ownsRow B 43 5 (.slice (some ⟨gU, 0, none⟩) 2 cU) 2 XS)  (hs7 : a0.eval (.tmp 7) = .pointer (some ⟨b, 0, none⟩)) (hsz : a0.tmps.size = 70)
    (HK : ∀ (a : Act) (w : World) (g1 c1 : Nat), a.defers = a0.defers → a.tmps.size = 70 → (∀ s, freeB ops34_9 s = true → a.eval (.tmp s) = a0.eval (.tmp s)) → Below B w0 w → (∀ k, k < S0 → k ≠ b → k ≠ gN → k ≠ gU → w.heap[k]? = w0.heap[k]?) → w.heap[b]? = some (.cells #[.int .i64 5, .bool false, .string ⟨#[]⟩, .slice (some ⟨gU, 0, none⟩) 2 cU, .slice (some ⟨g1, 0, none⟩) 3 c1] 43 (0, 0)) → (g1 = gN ∨ S0 ≤ g1) → w.ownsRow B 9 1 (.slice (some ⟨g1, 0, none⟩) 3 c1) 3 (NS ++ [.string ⟨#[118, 97, 114, 105, 97, 110, 116]⟩]) → w.ownsRow B 43 5 (.slice (some ⟨gU, 0, none⟩) 2 cU) 2 XS → Q .normal a w) : (Code.region 9 ops false).wp Tryz.prog Q a0 w0 := by
  refine reg34_9 ho hS hBS hb hbS hbU hbox hN hU hs7 hsz (fun L a w hJ hd hs hr hR => ?_)
  obtain ⟨hb', hun, u, nv, hbx, hnv, hu, hoN, hoU⟩ := hJ
  have c4 : w.cell? ⟨b, 4, none⟩ = some (a.eval (.tmp 47)) := hR 5 (by decide)
  obtain ⟨g1, c1, e1, hg1, ho1⟩ := hR 3 (by decide)
  obtain rfl : nv = .slice (some ⟨g1, 0, none⟩) 3 c1 := by have h := (cell_of_row w b 4 _ 43 (0, 0) hbx).symm.trans c4; rw [show a.eval (.tmp 47) = _ from e1] at h; simpa using h
  obtain rfl := hu trivial
  exact HK a w  g1 c1  hd hs hr hb' hun hbx hg1 ho1 (hoU trivial)
noncomputable def ops34_10 : Array Oper := (Tryz.f34.body.bind (inCode 10)).getD #[]
def sl34_10 : Nat → Nat
  | 0 => 49
  | 1 => 50
  | 2 => 51
  | 3 => 52
  | 4 => 53
  | 5 => 54
  | 6 => 55
  | 7 => 56
  | 8 => 55
  | _ => 0
def R34_10 (B S0 b gN gU cN cU : Nat) (NS XS : List Value) (p : Nat) (xa : ByteArray) (xo : ByteArray) (xv : ByteArray) : Nat → Value → World → Prop
  | 0, v, w => v = .pointer (some ⟨b, 3, none⟩)
  | 1, v, w => v = .slice (some ⟨gU, 0, none⟩) 2 cU
  | 2, v, w => v = .pointer (some ⟨p, 2, none⟩)
  | 3, v, w => v = .string xv
  | 4, v, w => v = .agg #[.int .i64 3, .bool false, .string xv, .slice none 0 0, .slice none 0 0]
  | 5, v, w => ∃ g c, v = .slice (some ⟨g, 0, none⟩) 1 c ∧ S0 ≤ g ∧ w.ownsRow S0 43 5 (.slice (some ⟨g, 0, none⟩) 1 c) 1 [.int .i64 3, .bool false, .string xv, .slice none 0 0, .slice none 0 0]
  | 6, v, w => ∃ g c, v = .slice (some ⟨g, 0, none⟩) 3 c ∧ (g = gU ∨ S0 ≤ g) ∧ w.ownsRow B 43 5 (.slice (some ⟨g, 0, none⟩) 3 c) 3 (XS ++ [.int .i64 3, .bool false, .string xv, .slice none 0 0, .slice none 0 0])
  | 7, v, w => v = .pointer (some ⟨b, 3, none⟩)
  | 8, v, w => w.cell? ⟨b, 3, none⟩ = some v
  | _, _, _ => True
theorem R34_10_ext {B S0 b gN gU cN cU : Nat} {NS XS : List Value} {p : Nat} {xa : ByteArray} {xo : ByteArray} {xv : ByteArray} {w w' : World} (hx : Ext w w') : ∀ j u, R34_10 B S0 b gN gU cN cU NS XS p xa xo xv j u w → R34_10 B S0 b gN gU cN cU NS XS p xa xo xv j u w'
  | 0, _, h => h
  | 1, _, h => h
  | 2, _, h => h
  | 3, _, h => h
  | 4, _, h => h
  | 5, _, h => let ⟨g, c, e, h1, h2⟩ := h; ⟨g, c, e, h1, own_ext h2 hx⟩
  | 6, _, h => let ⟨g, c, e, h1, h2⟩ := h; ⟨g, c, e, h1, own_ext h2 hx⟩
  | 7, _, h => h
  | 8, _, h => cell_ext h hx
  | _ + 9, _, _ => trivial
def J34_10 (B : Nat) (w0 : World) (B S0 b gN gU cN cU : Nat) (NS XS : List Value) (L : Array Bool) (w : World) : Prop := Below B w0 w ∧ (∀ k, k < S0 → k ≠ b → k ≠ gN → k ≠ gU → w.heap[k]? = w0.heap[k]?) ∧ ∃ u nv, w.heap[b]? = some (.cells #[.int .i64 5, .bool false, .string ⟨#[]⟩, u, nv] 43 (0, 0)) ∧ (True → nv = .slice (some ⟨gN, 0, none⟩) 3 cN) ∧ (L.getD 8 false = false → u = .slice (some ⟨gU, 0, none⟩) 2 cU) ∧ (True → w.ownsRow B 9 1 (.slice (some ⟨gN, 0, none⟩) 3 cN) 3 NS) ∧ (L.getD 6 false = false → w.ownsRow B 43 5 (.slice (some ⟨gU, 0, none⟩) 2 cU) 2 XS)
theorem J34_10_any {B : Nat} {w0 : World} {S0 b gN gU cN cU : Nat} {NS XS : List Value} {L : Array Bool} (i : Nat) {w : World} (h : J34_10 B w0 B S0 b gN gU cN cU NS XS L w) : J34_10 B w0 B S0 b gN gU cN cU NS XS (L.setIfInBounds i true) w := by
  obtain ⟨h1, h2, u, nv, h3, h4, h5, h6, h7⟩ := h
  exact ⟨h1, h2, u, nv, h3, fun h => h4 h, fun h => h5 (unset h), fun h => h6 h, fun h => h7 (unset h)⟩
theorem J34_10_le {B : Nat} {w0 : World} {S0 b gN gU cN cU : Nat} {NS XS : List Value} {L : Array Bool} {w : World} (hS : w0.heap.size = S0) (h : J34_10 B w0 B S0 b gN gU cN cU NS XS L w) : S0 ≤ w.heap.size := hS ▸ h.1.size
theorem J34_10_ext {B : Nat} {w0 : World} {S0 b gN gU cN cU : Nat} {NS XS : List Value} {L : Array Bool} (i : Nat) {w w' : World} (hS : w0.heap.size = S0) (h : J34_10 B w0 B S0 b gN gU cN cU NS XS L w) (hx : Ext w w') (hb : Below B w w') : J34_10 B w0 B S0 b gN gU cN cU NS XS (L.setIfInBounds i true) w' := by
  have hle := J34_10_le hS h
  obtain ⟨h1, h2, u, nv, h3, h4, h5, h6, h7⟩ := h
  exact ⟨h1.trans hb, fun k hk a b c => (hx.2 k (by omega)).trans (h2 k hk a b c), u, nv, blk_ext h3 hx, fun h => h4 h, fun h => h5 (unset h), fun h => own_ext (h6 h) hx, fun h => own_ext (h7 (unset h)) hx⟩
set_option maxHeartbeats 1600000 in
theorem reg34_10 {ops : Array Oper} (ho : ops = ops34_10) {Q : Exit → Act → World → Prop} {a0 : Act} {w0 : World} {B S0 b gN gU cN cU : Nat} {NS XS : List Value} {p : Nat} {xa : ByteArray} {xo : ByteArray} {xv : ByteArray} (hS : w0.heap.size = S0) (hBS : B ≤ S0) (hb : B ≤ b) (hbS : b < S0) (hbU : b ≠ gU) (hbox : w0.heap[b]? = some (.cells #[.int .i64 5, .bool false, .string ⟨#[]⟩, .slice (some ⟨gU, 0, none⟩) 2 cU, .slice (some ⟨gN, 0, none⟩) 3 cN] 43 (0, 0))) (hN : w0.ownsRow B 9 1 (.slice (some ⟨gN, 0, none⟩) 3 cN) 3 NS) (hU : w0.ownsRow B 43 5 (.slice (some ⟨gU, 0, none⟩) 2 cU) 2 XS) (hpS : p < S0) (hpb : p ≠ b) (hpN : p ≠ gN) (hpU : p ≠ gU) (hp : w0.heap[p]? = some (.cells #[.string xa, .string xo, .string xv] 65 (0, 0))) (hs7 : a0.eval (.tmp 7) = .pointer (some ⟨b, 0, none⟩)) (hs6 : a0.eval (.tmp 6) = .pointer (some ⟨p, 0, none⟩)) (hsz : a0.tmps.size = 70)
    (HK : ∀ L a w, J34_10 B w0 B S0 b gN gU cN cU NS XS L w → a.defers = a0.defers → a.tmps.size = 70 → (∀ s, freeB ops34_10 s = true → a.eval (.tmp s) = a0.eval (.tmp s)) → (∀ i, i < 9 → R34_10 B S0 b gN gU cN cU NS XS p xa xo xv i (a.eval (.tmp (sl34_10 i))) w) → Q .normal a w) : (Code.region 10 ops true).wp Tryz.prog Q a0 w0 := by
  subst ho
  refine region_made (n := 9) (sl := sl34_10) (J := J34_10 B w0 B S0 b gN gU cN cU NS XS) (R := R34_10 B S0 b gN gU cN cU NS XS p xa xo xv) (by kernel_rfl) (by kernel_rfl) (by kernel_rfl) (by rw [hsz]; kernel_rfl) ?_ ⟨(Below.refl _ _).drew, fun _ _ _ _ _ => rfl, _, _, hbox, fun _ => rfl, fun _ => rfl, fun _ => hN, fun _ => hU⟩ (fun L a w hall hf => HK L a w hf.world hf.defers (hf.size.trans hsz) hf.rest (fun i hi => hf.got i (hall i hi)))
  intro i hi L a w hs h1 hdep hd hst ho
  clear HK
  match i, hi, h1, hdep, ho with
  | 0, _, h1, hdep, ho =>
      have s7 := (hst.rest 7 (by kernel_rfl)).trans hs7
      have hr : (execOp a.eval (opAt ops34_10 0)).run Tryz.prog w = .ok (.value (.pointer (some ⟨b, 3, none⟩))) w := by
        clear hst hdep hd h1 hs ho
        generalize a.eval = ρ at s7 ⊢
        unfold execOp; rw [show (opAt ops34_10 0).op = .fieldAddr 43 (.tmp 7) 3 from by kernel_rfl]; try simp only [s7]
        go_simp
      exact op_value ho (by kernel_rfl) hr (made_val (d := 49) (by kernel_rfl) rfl (J34_10_any _ hst.world) (fun _ _ _ _ h => h))
  | 1, _, h1, hdep, ho =>
      obtain ⟨u, nv, hbx, hnv, hu, hoN, hoU⟩ := hst.world.2.2
      obtain rfl := hu (unlisted hs hd h1 (show waits .any ops34_10 8 1 = true from (by kernel_rfl)))
      have cb := fun o => cell_of_row w b o _ 43 (0, 0) hbx
      clear hbx hnv hoN hoU
      have g0 : a.eval (.tmp 49) = .pointer (some ⟨b, 3, none⟩) := hst.got 0 (hdep 0 (by kernel_rfl))
      have hr : (execOp a.eval (opAt ops34_10 1)).run Tryz.prog w = .ok (.value (.slice (some ⟨gU, 0, none⟩) 2 cU)) w := by
        clear hst hdep hd h1 hs ho
        generalize a.eval = ρ at g0 ⊢
        unfold execOp; rw [show (opAt ops34_10 1).op = .load 41 (.tmp 49) from by kernel_rfl]; try simp only [g0]
        go_simp
      exact op_value ho (by kernel_rfl) hr (made_val (d := 50) (by kernel_rfl) rfl (J34_10_any _ hst.world) (fun _ _ _ _ h => h))
  | 2, _, h1, hdep, ho =>
      have s6 := (hst.rest 6 (by kernel_rfl)).trans hs6
      have hr : (execOp a.eval (opAt ops34_10 2)).run Tryz.prog w = .ok (.value (.pointer (some ⟨p, 2, none⟩))) w := by
        clear hst hdep hd h1 hs ho
        generalize a.eval = ρ at s6 ⊢
        unfold execOp; rw [show (opAt ops34_10 2).op = .fieldAddr 65 (.tmp 6) 2 from by kernel_rfl]; try simp only [s6]
        go_simp
      exact op_value ho (by kernel_rfl) hr (made_val (d := 51) (by kernel_rfl) rfl (J34_10_any _ hst.world) (fun _ _ _ _ h => h))
  | 3, _, h1, hdep, ho =>
      have hpw := (hst.world.2.1 p hpS hpb hpN hpU).trans hp
      have cp := fun o => cell_of_row w p o _ 65 (0, 0) hpw
      clear hpw
      have g2 : a.eval (.tmp 51) = .pointer (some ⟨p, 2, none⟩) := hst.got 2 (hdep 2 (by kernel_rfl))
      have hr : (execOp a.eval (opAt ops34_10 3)).run Tryz.prog w = .ok (.value (.string xv)) w := by
        clear hst hdep hd h1 hs ho
        generalize a.eval = ρ at g2 ⊢
        unfold execOp; rw [show (opAt ops34_10 3).op = .load 9 (.tmp 51) from by kernel_rfl]; try simp only [g2]
        go_simp
      exact op_value ho (by kernel_rfl) hr (made_val (d := 52) (by kernel_rfl) rfl (J34_10_any _ hst.world) (fun _ _ _ _ h => h))
  | 4, _, h1, hdep, ho =>
      have g3 : a.eval (.tmp 52) = .string xv := hst.got 3 (hdep 3 (by kernel_rfl))
      have hr : (execOp a.eval (opAt ops34_10 4)).run Tryz.prog w = .ok (.enter 80 #[.string xv]) w := by
        clear hst hdep hd h1 hs ho
        have hk : ∀ f, a.eval (.func f) = .func (.func f) #[] #[] := fun _ => rfl; generalize a.eval = ρ at g3 hk ⊢
        unfold execOp; rw [show (opAt ops34_10 4).op = .call { callee := .value (.func 80), args := #[.tmp 52], argTypes := #[9] } from by kernel_rfl]; try simp only [g3, hk]
        go_simp
      refine op_call ho (by kernel_rfl) hr ((rtext_of xv w).mono ?_)
      rintro e w'' ⟨rfl, hb'⟩
      exact ⟨_, rfl, made_val (d := 53) (by kernel_rfl) rfl (J34_10_ext _ hS hst.world (Ext.of_below hb') (hb'.mono (Nat.le_trans hBS (J34_10_le hS hst.world)))) (fun j _ _ u h => R34_10_ext (Ext.of_below hb') j u h)⟩
  | 5, _, h1, hdep, ho =>
      have ge : a.eval (.tmp 53) = .agg #[.int .i64 3, .bool false, .string xv, .slice none 0 0, .slice none 0 0] := hst.got 4 (hdep 4 (by kernel_rfl))
      have hr : (execOp a.eval (opAt ops34_10 5)).run Tryz.prog w = .ok (.value (.slice (some ⟨w.heap.size, 0, none⟩) 1 1)) (w.alloc (.cells #[.int .i64 3, .bool false, .string xv, .slice none 0 0, .slice none 0 0] 43)) := by
        clear hst hdep hd h1 hs ho
        generalize a.eval = ρ at ge ⊢
        unfold execOp; rw [show (opAt ops34_10 5).op = .buildSlice 41 1 #[(0, .tmp 53)] from by kernel_rfl]; try simp only [ge]
        go_simp
      exact op_value ho (by kernel_rfl) hr (made_val (d := 54) (by kernel_rfl) ⟨_, _, rfl, J34_10_le hS hst.world, own_new [.int .i64 3, .bool false, .string xv, .slice none 0 0, .slice none 0 0] rfl (J34_10_le hS hst.world) (by decide)⟩ (J34_10_ext _ hS hst.world (Ext.alloc _ _) ((Below.refl _ _).alloc (Nat.le_trans hBS (J34_10_le hS hst.world)) _)) (fun j _ _ u h => R34_10_ext (Ext.alloc _ _) j u h))
  | 6, _, h1, hdep, ho =>
      obtain ⟨u, nv, hbx, hnv, hu, hoN, hoU⟩ := hst.world.2.2
      have hUw := hoU (unl h1)
      obtain ⟨gs, cs, e2, hgs, hos⟩ := hst.got 5 (hdep 5 (by kernel_rfl))
      have e1 : a.eval (.tmp 50) = .slice (some ⟨gU, 0, none⟩) 2 cU := hst.got 1 (hdep 1 (by kernel_rfl))
      obtain ⟨i9, hi9, hz9, hzz9, hzb9⟩ := info_parts info43
      have hgU : gU < S0 := by have := (World.ownsRow.lt hU gU rfl).2; omega
      have hBU : B ≤ gU := (World.ownsRow.lt hU gU rfl).1
      obtain ⟨curU, cU', hblkU⟩ := own_block hUw rfl
      have hle := J34_10_le hS hst.world
      refine op_append ho (by kernel_rfl) (wp_append_lies w (.tmp 50) (.tmp 54) 41 (show (opAt ops34_10 6).op = _ from (by kernel_rfl)) B 43 i9 (.agg #[.int .i64 0, .bool false, .string ⟨#[]⟩, .slice none 0 0, .slice none 0 0]) 5 80 Tryz.underlying41 hi9 hz9 hzz9 hzb9 rfl (by decide) _ 2 XS e1 hUw ⟨gs, 0, none⟩ 1 cs [.int .i64 3, .bool false, .string xv, .slice none 0 0, .slice none 0 0] e2 rfl (hos.cells rfl) (by intro u hu; simp only [List.mem_cons, List.not_mem_nil, or_false] at hu; rcases hu with rfl | rfl | rfl | rfl | rfl <;> rfl) (by decide) (by decide) (by decide) (by omega) _ rfl ?_)
      intro g cap w' ho' hgr hgg hlt
      have hgg2 : g = gU ∨ S0 ≤ g := by rcases hgg with h | h; exact .inl (by simpa [Value.ownBlock] using h.symm); exact .inr (by omega)
      refine made_val (d := 55) (by kernel_rfl) ⟨g, cap, rfl, hgg2, ho'⟩ ⟨hst.world.1.trans ⟨hgr.os, hgr.tape, hgr.output, hgr.size, fun k hk => hgr.block k (by omega) (by simp only [Value.ownBlock]; intro e; injection e; omega)⟩, fun k hk a b c => (hgr.block k (by omega) (by simp only [Value.ownBlock]; intro e; injection e; omega)).trans (hst.world.2.1 k hk a b c), u, nv, (hgr.block b (by omega) (by simp only [Value.ownBlock]; intro e; injection e; omega)).trans hbx, fun h => hnv h, fun h => hu (unset h), fun h => (hoN h).kept hgr (.inr (own_ne_own (hoN h) hUw rfl (by decide))), fun h => ?_⟩ ?_
      · rw [set_same (by rw [hs]; decide)] at h; cases h
      intro j hj hL u h
      match j, hj, hL, h with
      | 0, _, _, h => exact (show _ = _ from h)
      | 1, _, _, h => exact (show _ = _ from h)
      | 2, _, _, h => exact (show _ = _ from h)
      | 3, _, _, h => exact (show _ = _ from h)
      | 4, _, _, h => exact (show _ = _ from h)
      | 5, _, _, h => exact (let ⟨g, c, e, h1, h2⟩ := h; ⟨g, c, e, h1, h2.kept hgr (.inr (fun e => by simp [Value.ownBlock] at e; omega))⟩)
      | 6, hj, _, _ => exact absurd rfl hj
      | 7, _, _, h => exact (show _ = _ from h)
      | 8, hj, hL, _ => exact absurd hL (by rw [(unlisted hs hd h1 (show waits .any ops34_10 8 6 = true from (by kernel_rfl)))]; decide)
      | _ + 9, _, _, _ => exact trivial
  | 7, _, h1, hdep, ho =>
      have s7 := (hst.rest 7 (by kernel_rfl)).trans hs7
      have hr : (execOp a.eval (opAt ops34_10 7)).run Tryz.prog w = .ok (.value (.pointer (some ⟨b, 3, none⟩))) w := by
        clear hst hdep hd h1 hs ho
        generalize a.eval = ρ at s7 ⊢
        unfold execOp; rw [show (opAt ops34_10 7).op = .fieldAddr 43 (.tmp 7) 3 from by kernel_rfl]; try simp only [s7]
        go_simp
      exact op_value ho (by kernel_rfl) hr (made_val (d := 56) (by kernel_rfl) rfl (J34_10_any _ hst.world) (fun _ _ _ _ h => h))
  | 8, _, h1, hdep, ho =>
      obtain ⟨u, nv, hbx, hnv, hu, hoN, hoU⟩ := hst.world.2.2
      have hle := J34_10_le hS hst.world
      have e1 : a.eval (.tmp 56) = .pointer (some ⟨b, 3, none⟩) := hst.got 7 (hdep 7 (by kernel_rfl))
      obtain ⟨g, c, e2, hgg, hog⟩ := hst.got 6 (hdep 6 (by kernel_rfl))
      have e2' : a.eval (.tmp 55) = .slice (some ⟨g, 0, none⟩) 3 c := e2
      have hr := run_cell41 (x := .tmp 56) (y := .tmp 55) (show (opAt ops34_10 8).op = _ from (by kernel_rfl)) e1 e2' hbx (by simp)
      have hbN : b ≠ gN := fun e => own_ne_blk hN hbox (.inl (by decide)) (by rw [e]; rfl)
      refine op_skip ho (by kernel_rfl) hr (made_skip (by kernel_rfl) (show World.cell? _ _ = some (a.eval (.tmp 55)) from (by rw [e2']; exact (cell_of_row _ b 3 _ 43 (0, 0) (blk_set hbx 3 _)).trans rfl)) ⟨hst.world.1.setCell (by simpa using hb) _, fun k hk a b c => (Below.heap_setCell _ _ _ k a).trans (hst.world.2.1 k hk a b c), _, _, (blk_set hbx 3 _), fun h => hnv h, fun h => ?_, fun h => set_own (hoN h) (fun e => hbN (by simpa [Value.ownBlock] using e.symm)), fun h => set_own (hoU (unset h)) (fun e => hbU (by simpa [Value.ownBlock] using e.symm))⟩ ?_)
      · rw [set_same (by rw [hs]; decide)] at h; cases h
      intro j hj hL u h
      match j, hj, hL, h with
      | 0, _, _, h => exact (show _ = _ from h)
      | 1, _, _, h => exact (show _ = _ from h)
      | 2, _, _, h => exact (show _ = _ from h)
      | 3, _, _, h => exact (show _ = _ from h)
      | 4, _, _, h => exact (show _ = _ from h)
      | 5, _, _, h => exact (let ⟨g, c, e, h1, h2⟩ := h; ⟨g, c, e, h1, set_own h2 (fun e => by simp [Value.ownBlock] at e; omega)⟩)
      | 6, _, _, h => exact (let ⟨g, c, e, h1, h2⟩ := h; ⟨g, c, e, h1, set_own h2 (fun e => by simp [Value.ownBlock] at e; omega)⟩)
      | 7, _, _, h => exact (show _ = _ from h)
      | 8, hj, _, _ => exact absurd rfl hj
      | _ + 9, _, _, _ => exact trivial
  | k + 9, hi, _, _, _ => exact absurd hi (by omega)
set_option maxHeartbeats 1600000 in
theorem done34_10 {ops : Array Oper} (ho : ops = ops34_10) {Q : Exit → Act → World → Prop} {a0 : Act} {w0 : World} {B S0 b gN gU cN cU : Nat} {NS XS : List Value} {p : Nat} {xa : ByteArray} {xo : ByteArray} {xv : ByteArray} (hS : w0.heap.size = S0) (hBS : B ≤ S0) (hb : B ≤ b) (hbS : b < S0) (hbU : b ≠ gU) (hbox : w0.heap[b]? = some (.cells #[.int .i64 5, .bool false, .string ⟨#[]⟩, .slice (some ⟨gU, 0, none⟩) 2 cU, .slice (some ⟨gN, 0, none⟩) 3 cN] 43 (0, 0))) (hN : w0.ownsRow B 9 1 (.slice (some ⟨gN, 0, none⟩) 3 cN) 3 NS) (hU : w0.ownsRow B 43 5 (.slice (some ⟨gU, 0, none⟩) 2 cU) 2 XS) (hpS : p < S0) (hpb : p ≠ b) (hpN : p ≠ gN) (hpU : p ≠ gU) (hp : w0.heap[p]? = some (.cells #[.string xa, .string xo, .string xv] 65 (0, 0))) (hs7 : a0.eval (.tmp 7) = .pointer (some ⟨b, 0, none⟩)) (hs6 : a0.eval (.tmp 6) = .pointer (some ⟨p, 0, none⟩)) (hsz : a0.tmps.size = 70)
    (HK : ∀ (a : Act) (w : World) (g2 c2 : Nat), a.defers = a0.defers → a.tmps.size = 70 → (∀ s, freeB ops34_10 s = true → a.eval (.tmp s) = a0.eval (.tmp s)) → Below B w0 w → (∀ k, k < S0 → k ≠ b → k ≠ gN → k ≠ gU → w.heap[k]? = w0.heap[k]?) → w.heap[b]? = some (.cells #[.int .i64 5, .bool false, .string ⟨#[]⟩, .slice (some ⟨g2, 0, none⟩) 3 c2, .slice (some ⟨gN, 0, none⟩) 3 cN] 43 (0, 0)) → w.ownsRow B 9 1 (.slice (some ⟨gN, 0, none⟩) 3 cN) 3 NS → (g2 = gU ∨ S0 ≤ g2) → w.ownsRow B 43 5 (.slice (some ⟨g2, 0, none⟩) 3 c2) 3 (XS ++ [.int .i64 3, .bool false, .string xv, .slice none 0 0, .slice none 0 0]) → Q .normal a w) : (Code.region 10 ops true).wp Tryz.prog Q a0 w0 := by
  refine reg34_10 ho hS hBS hb hbS hbU hbox hN hU hpS hpb hpN hpU hp hs7 hs6 hsz (fun L a w hJ hd hs hr hR => ?_)
  obtain ⟨hb', hun, u, nv, hbx, hnv, hu, hoN, hoU⟩ := hJ
  obtain rfl := hnv trivial
  have c3 : w.cell? ⟨b, 3, none⟩ = some (a.eval (.tmp 55)) := hR 8 (by decide)
  obtain ⟨g2, c2, e2, hg2, ho2⟩ := hR 6 (by decide)
  obtain rfl : u = .slice (some ⟨g2, 0, none⟩) 3 c2 := by have h := (cell_of_row w b 3 _ 43 (0, 0) hbx).symm.trans c3; rw [show a.eval (.tmp 55) = _ from e2] at h; simpa using h
  exact HK a w   g2 c2 hd hs hr hb' hun hbx (hoN trivial) hg2 ho2
noncomputable def ops34_11 : Array Oper := (Tryz.f34.body.bind (inCode 11)).getD #[]
def sl34_11 : Nat → Nat
  | 0 => 57
  | 1 => 58
  | 2 => 59
  | 3 => 60
  | 4 => 61
  | 5 => 60
  | _ => 0
def R34_11 (B S0 b gN gU cN cU : Nat) (NS XS : List Value)  : Nat → Value → World → Prop
  | 0, v, w => v = .pointer (some ⟨b, 4, none⟩)
  | 1, v, w => v = .slice (some ⟨gN, 0, none⟩) 3 cN
  | 2, v, w => ∃ g c, v = .slice (some ⟨g, 0, none⟩) 1 c ∧ S0 ≤ g ∧ w.ownsRow S0 9 1 (.slice (some ⟨g, 0, none⟩) 1 c) 1 [.string ⟨#[112, 108, 97, 116, 102, 111, 114, 109]⟩]
  | 3, v, w => ∃ g c, v = .slice (some ⟨g, 0, none⟩) 4 c ∧ (g = gN ∨ S0 ≤ g) ∧ w.ownsRow B 9 1 (.slice (some ⟨g, 0, none⟩) 4 c) 4 (NS ++ [.string ⟨#[112, 108, 97, 116, 102, 111, 114, 109]⟩])
  | 4, v, w => v = .pointer (some ⟨b, 4, none⟩)
  | 5, v, w => w.cell? ⟨b, 4, none⟩ = some v
  | _, _, _ => True
theorem R34_11_ext {B S0 b gN gU cN cU : Nat} {NS XS : List Value}  {w w' : World} (hx : Ext w w') : ∀ j u, R34_11 B S0 b gN gU cN cU NS XS  j u w → R34_11 B S0 b gN gU cN cU NS XS  j u w'
  | 0, _, h => h
  | 1, _, h => h
  | 2, _, h => let ⟨g, c, e, h1, h2⟩ := h; ⟨g, c, e, h1, own_ext h2 hx⟩
  | 3, _, h => let ⟨g, c, e, h1, h2⟩ := h; ⟨g, c, e, h1, own_ext h2 hx⟩
  | 4, _, h => h
  | 5, _, h => cell_ext h hx
  | _ + 6, _, _ => trivial
def J34_11 (B : Nat) (w0 : World) (B S0 b gN gU cN cU : Nat) (NS XS : List Value) (L : Array Bool) (w : World) : Prop := Below B w0 w ∧ (∀ k, k < S0 → k ≠ b → k ≠ gN → k ≠ gU → w.heap[k]? = w0.heap[k]?) ∧ ∃ u nv, w.heap[b]? = some (.cells #[.int .i64 5, .bool false, .string ⟨#[]⟩, u, nv] 43 (0, 0)) ∧ (L.getD 5 false = false → nv = .slice (some ⟨gN, 0, none⟩) 3 cN) ∧ (True → u = .slice (some ⟨gU, 0, none⟩) 3 cU) ∧ (L.getD 3 false = false → w.ownsRow B 9 1 (.slice (some ⟨gN, 0, none⟩) 3 cN) 3 NS) ∧ (True → w.ownsRow B 43 5 (.slice (some ⟨gU, 0, none⟩) 3 cU) 3 XS)
theorem J34_11_any {B : Nat} {w0 : World} {S0 b gN gU cN cU : Nat} {NS XS : List Value} {L : Array Bool} (i : Nat) {w : World} (h : J34_11 B w0 B S0 b gN gU cN cU NS XS L w) : J34_11 B w0 B S0 b gN gU cN cU NS XS (L.setIfInBounds i true) w := by
  obtain ⟨h1, h2, u, nv, h3, h4, h5, h6, h7⟩ := h
  exact ⟨h1, h2, u, nv, h3, fun h => h4 (unset h), fun h => h5 h, fun h => h6 (unset h), fun h => h7 h⟩
theorem J34_11_le {B : Nat} {w0 : World} {S0 b gN gU cN cU : Nat} {NS XS : List Value} {L : Array Bool} {w : World} (hS : w0.heap.size = S0) (h : J34_11 B w0 B S0 b gN gU cN cU NS XS L w) : S0 ≤ w.heap.size := hS ▸ h.1.size
theorem J34_11_ext {B : Nat} {w0 : World} {S0 b gN gU cN cU : Nat} {NS XS : List Value} {L : Array Bool} (i : Nat) {w w' : World} (hS : w0.heap.size = S0) (h : J34_11 B w0 B S0 b gN gU cN cU NS XS L w) (hx : Ext w w') (hb : Below B w w') : J34_11 B w0 B S0 b gN gU cN cU NS XS (L.setIfInBounds i true) w' := by
  have hle := J34_11_le hS h
  obtain ⟨h1, h2, u, nv, h3, h4, h5, h6, h7⟩ := h
  exact ⟨h1.trans hb, fun k hk a b c => (hx.2 k (by omega)).trans (h2 k hk a b c), u, nv, blk_ext h3 hx, fun h => h4 (unset h), fun h => h5 h, fun h => own_ext (h6 (unset h)) hx, fun h => own_ext (h7 h) hx⟩
set_option maxHeartbeats 1600000 in
theorem reg34_11 {ops : Array Oper} (ho : ops = ops34_11) {Q : Exit → Act → World → Prop} {a0 : Act} {w0 : World} {B S0 b gN gU cN cU : Nat} {NS XS : List Value}  (hS : w0.heap.size = S0) (hBS : B ≤ S0) (hb : B ≤ b) (hbS : b < S0) (hbU : b ≠ gU) (hbox : w0.heap[b]? = some (.cells #[.int .i64 5, .bool false, .string ⟨#[]⟩, .slice (some ⟨gU, 0, none⟩) 3 cU, .slice (some ⟨gN, 0, none⟩) 3 cN] 43 (0, 0))) (hN : w0.ownsRow B 9 1 (.slice (some ⟨gN, 0, none⟩) 3 cN) 3 NS) (hU : w0.ownsRow B 43 5 (.slice (some ⟨gU, 0, none⟩) 3 cU) 3 XS)  (hs5 : a0.eval (.tmp 5) = .pointer (some ⟨b, 0, none⟩)) (hsz : a0.tmps.size = 70)
    (HK : ∀ L a w, J34_11 B w0 B S0 b gN gU cN cU NS XS L w → a.defers = a0.defers → a.tmps.size = 70 → (∀ s, freeB ops34_11 s = true → a.eval (.tmp s) = a0.eval (.tmp s)) → (∀ i, i < 6 → R34_11 B S0 b gN gU cN cU NS XS  i (a.eval (.tmp (sl34_11 i))) w) → Q .normal a w) : (Code.region 11 ops false).wp Tryz.prog Q a0 w0 := by
  subst ho
  refine region_made_seq (n := 6) (sl := sl34_11) (J := J34_11 B w0 B S0 b gN gU cN cU NS XS) (R := R34_11 B S0 b gN gU cN cU NS XS ) (by kernel_rfl) (by kernel_rfl) (by kernel_rfl) (by rw [hsz]; kernel_rfl) ?_ ⟨(Below.refl _ _), fun _ _ _ _ _ => rfl, _, _, hbox, fun _ => rfl, fun _ => rfl, fun _ => hN, fun _ => hU⟩ (fun L a w hall hf => HK L a w hf.world hf.defers (hf.size.trans hsz) hf.rest (fun i hi => hf.got i (hall i hi)))
  intro i hi L a w hs h1 hdep hd hst ho
  clear HK
  match i, hi, h1, hdep, ho with
  | 0, _, h1, hdep, ho =>
      have s5 := (hst.rest 5 (by kernel_rfl)).trans hs5
      have hr : (execOp a.eval (opAt ops34_11 0)).run Tryz.prog w = .ok (.value (.pointer (some ⟨b, 4, none⟩))) w := by
        clear hst hdep hd h1 hs ho
        generalize a.eval = ρ at s5 ⊢
        unfold execOp; rw [show (opAt ops34_11 0).op = .fieldAddr 43 (.tmp 5) 4 from by kernel_rfl]; try simp only [s5]
        go_simp
      exact op_value ho (by kernel_rfl) hr (made_val (d := 57) (by kernel_rfl) rfl (J34_11_any _ hst.world) (fun _ _ _ _ h => h))
  | 1, _, h1, hdep, ho =>
      obtain ⟨u, nv, hbx, hnv, hu, hoN, hoU⟩ := hst.world.2.2
      obtain rfl := hnv (unlisted hs hd h1 (show waits .any ops34_11 5 1 = true from (by kernel_rfl)))
      have cb := fun o => cell_of_row w b o _ 43 (0, 0) hbx
      clear hbx hu hoN hoU
      have g0 : a.eval (.tmp 57) = .pointer (some ⟨b, 4, none⟩) := hst.got 0 (hdep 0 (by kernel_rfl))
      have hr : (execOp a.eval (opAt ops34_11 1)).run Tryz.prog w = .ok (.value (.slice (some ⟨gN, 0, none⟩) 3 cN)) w := by
        clear hst hdep hd h1 hs ho
        generalize a.eval = ρ at g0 ⊢
        unfold execOp; rw [show (opAt ops34_11 1).op = .load 25 (.tmp 57) from by kernel_rfl]; try simp only [g0]
        go_simp
      exact op_value ho (by kernel_rfl) hr (made_val (d := 58) (by kernel_rfl) rfl (J34_11_any _ hst.world) (fun _ _ _ _ h => h))
  | 2, _, h1, hdep, ho =>
      have hr : (execOp a.eval (opAt ops34_11 2)).run Tryz.prog w = .ok (.value (.slice (some ⟨w.heap.size, 0, none⟩) 1 1)) (w.alloc (.cells #[.string ⟨#[112, 108, 97, 116, 102, 111, 114, 109]⟩] 9)) := by
        clear hst hdep hd h1 hs ho
        have hk : ∀ v, a.eval (.const v) = v := fun _ => rfl; generalize a.eval = ρ at hk ⊢
        unfold execOp; rw [show (opAt ops34_11 2).op = .buildSlice 25 1 #[(0, .const (.string ⟨#[112, 108, 97, 116, 102, 111, 114, 109]⟩))] from by kernel_rfl]; try simp only [hk]
        go_simp
      exact op_value ho (by kernel_rfl) hr (made_val (d := 59) (by kernel_rfl) (⟨_, _, rfl, J34_11_le hS hst.world, own_new [.string ⟨#[112, 108, 97, 116, 102, 111, 114, 109]⟩] rfl (J34_11_le hS hst.world) (by decide)⟩) (J34_11_ext _ hS hst.world (Ext.alloc _ _) ((Below.refl _ _).alloc (Nat.le_trans hBS (J34_11_le hS hst.world)) _)) (fun j _ _ u h => R34_11_ext (Ext.alloc _ _) j u h))
  | 3, _, h1, hdep, ho =>
      obtain ⟨u, nv, hbx, hnv, hu, hoN, hoU⟩ := hst.world.2.2
      have hNw := hoN (unl h1)
      obtain ⟨gs, cs, e2, hgs, hos⟩ := hst.got 2 (hdep 2 (by kernel_rfl))
      have e1 : a.eval (.tmp 58) = .slice (some ⟨gN, 0, none⟩) 3 cN := hst.got 1 (hdep 1 (by kernel_rfl))
      obtain ⟨i9, hi9, hz9, hzz9, hzb9⟩ := info_parts info9
      have hgN : gN < S0 := by have := (World.ownsRow.lt hN gN rfl).2; omega
      have hBN : B ≤ gN := (World.ownsRow.lt hN gN rfl).1
      have hbN : b ≠ gN := fun e => own_ne_blk hNw hbx (.inl (by decide)) (by rw [e]; rfl)
      obtain ⟨curN, cN', hblkN⟩ := own_block hNw rfl
      have hle := J34_11_le hS hst.world
      refine op_append ho (by kernel_rfl) (wp_append_lies w (.tmp 58) (.tmp 59) 25 (show (opAt ops34_11 3).op = _ from (by kernel_rfl)) B 9 i9 (.string ⟨#[]⟩) 1 16 Tryz.underlying25 hi9 hz9 hzz9 hzb9 rfl (by decide) _ 3 NS e1 hNw ⟨gs, 0, none⟩ 1 cs [.string ⟨#[112, 108, 97, 116, 102, 111, 114, 109]⟩] e2 rfl (hos.cells rfl) (by intro u hu; simp only [List.mem_cons, List.not_mem_nil, or_false] at hu; subst hu; rfl) (by decide) (by decide) (by decide) (by omega) _ rfl ?_)
      intro g cap w' ho' hgr hgg hlt
      have hgg2 : g = gN ∨ S0 ≤ g := by rcases hgg with h | h; exact .inl (by simpa [Value.ownBlock] using h.symm); exact .inr (by omega)
      refine made_val (d := 60) (by kernel_rfl) ⟨g, cap, rfl, hgg2, ho'⟩ ⟨hst.world.1.trans ⟨hgr.os, hgr.tape, hgr.output, hgr.size, fun k hk => hgr.block k (by omega) (by simp only [Value.ownBlock]; intro e; injection e; omega)⟩, fun k hk a b c => (hgr.block k (by omega) (by simp only [Value.ownBlock]; intro e; injection e; omega)).trans (hst.world.2.1 k hk a b c), u, nv, (hgr.block b (by omega) (by simp only [Value.ownBlock]; intro e; injection e; omega)).trans hbx, fun h => hnv (unset h), fun h => hu h, fun h => ?_, fun h => (hoU h).kept hgr (.inr (own_ne_own (hoU h) hNw rfl (by decide)))⟩ ?_
      · rw [set_same (by rw [hs]; decide)] at h; cases h
      intro j hj hL u h
      match j, hj, hL, h with
      | 0, _, _, h => exact (show _ = _ from h)
      | 1, _, _, h => exact (show _ = _ from h)
      | 2, _, _, h => exact (let ⟨g, c, e, h1, h2⟩ := h; ⟨g, c, e, h1, h2.kept hgr (.inr (fun e => by simp [Value.ownBlock] at e; omega))⟩)
      | 3, hj, _, _ => exact absurd rfl hj
      | 4, _, _, h => exact (show _ = _ from h)
      | 5, hj, hL, _ => exact absurd hL (by rw [(unlisted hs hd h1 (show waits .any ops34_11 5 3 = true from (by kernel_rfl)))]; decide)
      | _ + 6, _, _, _ => exact trivial
  | 4, _, h1, hdep, ho =>
      have s5 := (hst.rest 5 (by kernel_rfl)).trans hs5
      have hr : (execOp a.eval (opAt ops34_11 4)).run Tryz.prog w = .ok (.value (.pointer (some ⟨b, 4, none⟩))) w := by
        clear hst hdep hd h1 hs ho
        generalize a.eval = ρ at s5 ⊢
        unfold execOp; rw [show (opAt ops34_11 4).op = .fieldAddr 43 (.tmp 5) 4 from by kernel_rfl]; try simp only [s5]
        go_simp
      exact op_value ho (by kernel_rfl) hr (made_val (d := 61) (by kernel_rfl) rfl (J34_11_any _ hst.world) (fun _ _ _ _ h => h))
  | 5, _, h1, hdep, ho =>
      obtain ⟨u, nv, hbx, hnv, hu, hoN, hoU⟩ := hst.world.2.2
      have hle := J34_11_le hS hst.world
      have e1 : a.eval (.tmp 61) = .pointer (some ⟨b, 4, none⟩) := hst.got 4 (hdep 4 (by kernel_rfl))
      obtain ⟨g, c, e2, hgg, hog⟩ := hst.got 3 (hdep 3 (by kernel_rfl))
      have e2' : a.eval (.tmp 60) = .slice (some ⟨g, 0, none⟩) 4 c := e2
      have hr := run_cell25 (x := .tmp 61) (y := .tmp 60) (show (opAt ops34_11 5).op = _ from (by kernel_rfl)) e1 e2' hbx (by simp)
      have hbN : b ≠ gN := fun e => own_ne_blk hN hbox (.inl (by decide)) (by rw [e]; rfl)
      refine op_skip ho (by kernel_rfl) hr (made_skip (by kernel_rfl) (show World.cell? _ _ = some (a.eval (.tmp 60)) from (by rw [e2']; exact (cell_of_row _ b 4 _ 43 (0, 0) (blk_set hbx 4 _)).trans rfl)) ⟨hst.world.1.setCell (by simpa using hb) _, fun k hk a b c => (Below.heap_setCell _ _ _ k a).trans (hst.world.2.1 k hk a b c), _, _, (blk_set hbx 4 _), fun h => ?_, fun h => hu h, fun h => set_own (hoN (unset h)) (fun e => hbN (by simpa [Value.ownBlock] using e.symm)), fun h => set_own (hoU h) (fun e => hbU (by simpa [Value.ownBlock] using e.symm))⟩ ?_)
      · rw [set_same (by rw [hs]; decide)] at h; cases h
      intro j hj hL u h
      match j, hj, hL, h with
      | 0, _, _, h => exact (show _ = _ from h)
      | 1, _, _, h => exact (show _ = _ from h)
      | 2, _, _, h => exact (let ⟨g, c, e, h1, h2⟩ := h; ⟨g, c, e, h1, set_own h2 (own_ne_blk h2 hbx (.inl (by decide)))⟩)
      | 3, _, _, h => exact (let ⟨g, c, e, h1, h2⟩ := h; ⟨g, c, e, h1, set_own h2 (own_ne_blk h2 hbx (.inl (by decide)))⟩)
      | 4, _, _, h => exact (show _ = _ from h)
      | 5, hj, _, _ => exact absurd rfl hj
      | _ + 6, _, _, _ => exact trivial
  | k + 6, hi, _, _, _ => exact absurd hi (by omega)
set_option maxHeartbeats 1600000 in
theorem done34_11 {ops : Array Oper} (ho : ops = ops34_11) {Q : Exit → Act → World → Prop} {a0 : Act} {w0 : World} {B S0 b gN gU cN cU : Nat} {NS XS : List Value}  (hS : w0.heap.size = S0) (hBS : B ≤ S0) (hb : B ≤ b) (hbS : b < S0) (hbU : b ≠ gU) (hbox : w0.heap[b]? = some (.cells #[.int .i64 5, .bool false, .string ⟨#[]⟩, .slice (some ⟨gU, 0, none⟩) 3 cU, .slice (some ⟨gN, 0, none⟩) 3 cN] 43 (0, 0))) (hN : w0.ownsRow B 9 1 (.slice (some ⟨gN, 0, none⟩) 3 cN) 3 NS) (hU : w0.ownsRow B 43 5 (.slice (some ⟨gU, 0, none⟩) 3 cU) 3 XS)  (hs5 : a0.eval (.tmp 5) = .pointer (some ⟨b, 0, none⟩)) (hsz : a0.tmps.size = 70)
    (HK : ∀ (a : Act) (w : World) (g1 c1 : Nat), a.defers = a0.defers → a.tmps.size = 70 → (∀ s, freeB ops34_11 s = true → a.eval (.tmp s) = a0.eval (.tmp s)) → Below B w0 w → (∀ k, k < S0 → k ≠ b → k ≠ gN → k ≠ gU → w.heap[k]? = w0.heap[k]?) → w.heap[b]? = some (.cells #[.int .i64 5, .bool false, .string ⟨#[]⟩, .slice (some ⟨gU, 0, none⟩) 3 cU, .slice (some ⟨g1, 0, none⟩) 4 c1] 43 (0, 0)) → (g1 = gN ∨ S0 ≤ g1) → w.ownsRow B 9 1 (.slice (some ⟨g1, 0, none⟩) 4 c1) 4 (NS ++ [.string ⟨#[112, 108, 97, 116, 102, 111, 114, 109]⟩]) → w.ownsRow B 43 5 (.slice (some ⟨gU, 0, none⟩) 3 cU) 3 XS → Q .normal a w) : (Code.region 11 ops false).wp Tryz.prog Q a0 w0 := by
  refine reg34_11 ho hS hBS hb hbS hbU hbox hN hU hs5 hsz (fun L a w hJ hd hs hr hR => ?_)
  obtain ⟨hb', hun, u, nv, hbx, hnv, hu, hoN, hoU⟩ := hJ
  have c4 : w.cell? ⟨b, 4, none⟩ = some (a.eval (.tmp 60)) := hR 5 (by decide)
  obtain ⟨g1, c1, e1, hg1, ho1⟩ := hR 3 (by decide)
  obtain rfl : nv = .slice (some ⟨g1, 0, none⟩) 4 c1 := by have h := (cell_of_row w b 4 _ 43 (0, 0) hbx).symm.trans c4; rw [show a.eval (.tmp 60) = _ from e1] at h; simpa using h
  obtain rfl := hu trivial
  exact HK a w  g1 c1  hd hs hr hb' hun hbx hg1 ho1 (hoU trivial)
noncomputable def ops34_12 : Array Oper := (Tryz.f34.body.bind (inCode 12)).getD #[]
def sl34_12 : Nat → Nat
  | 0 => 62
  | 1 => 63
  | 2 => 64
  | 3 => 65
  | 4 => 66
  | 5 => 67
  | 6 => 66
  | _ => 0
def R34_12 (B S0 b gN gU cN cU : Nat) (NS XS : List Value) (p : Nat) (gp : Nat) (gq : Nat) (kp : Nat) (c5 : Nat) (c6 : Nat) : Nat → Value → World → Prop
  | 0, v, w => v = .pointer (some ⟨b, 3, none⟩)
  | 1, v, w => v = .slice (some ⟨gU, 0, none⟩) 3 cU
  | 2, v, w => v = .agg #[.int .i64 5, .bool false, .string ⟨#[]⟩, .slice (some ⟨gp, 0, none⟩) kp c5, .slice (some ⟨gq, 0, none⟩) kp c6]
  | 3, v, w => ∃ g c, v = .slice (some ⟨g, 0, none⟩) 1 c ∧ S0 ≤ g ∧ w.ownsRow S0 43 5 (.slice (some ⟨g, 0, none⟩) 1 c) 1 [.int .i64 5, .bool false, .string ⟨#[]⟩, .slice (some ⟨gp, 0, none⟩) kp c5, .slice (some ⟨gq, 0, none⟩) kp c6]
  | 4, v, w => ∃ g c, v = .slice (some ⟨g, 0, none⟩) 4 c ∧ (g = gU ∨ S0 ≤ g) ∧ w.ownsRow B 43 5 (.slice (some ⟨g, 0, none⟩) 4 c) 4 (XS ++ [.int .i64 5, .bool false, .string ⟨#[]⟩, .slice (some ⟨gp, 0, none⟩) kp c5, .slice (some ⟨gq, 0, none⟩) kp c6])
  | 5, v, w => v = .pointer (some ⟨b, 3, none⟩)
  | 6, v, w => w.cell? ⟨b, 3, none⟩ = some v
  | _, _, _ => True
theorem R34_12_ext {B S0 b gN gU cN cU : Nat} {NS XS : List Value} {p : Nat} {gp : Nat} {gq : Nat} {kp : Nat} {c5 : Nat} {c6 : Nat} {w w' : World} (hx : Ext w w') : ∀ j u, R34_12 B S0 b gN gU cN cU NS XS p gp gq kp c5 c6 j u w → R34_12 B S0 b gN gU cN cU NS XS p gp gq kp c5 c6 j u w'
  | 0, _, h => h
  | 1, _, h => h
  | 2, _, h => h
  | 3, _, h => let ⟨g, c, e, h1, h2⟩ := h; ⟨g, c, e, h1, own_ext h2 hx⟩
  | 4, _, h => let ⟨g, c, e, h1, h2⟩ := h; ⟨g, c, e, h1, own_ext h2 hx⟩
  | 5, _, h => h
  | 6, _, h => cell_ext h hx
  | _ + 7, _, _ => trivial
def J34_12 (B : Nat) (w0 : World) (B S0 b gN gU cN cU : Nat) (NS XS : List Value) (L : Array Bool) (w : World) : Prop := Below B w0 w ∧ (∀ k, k < S0 → k ≠ b → k ≠ gN → k ≠ gU → w.heap[k]? = w0.heap[k]?) ∧ ∃ u nv, w.heap[b]? = some (.cells #[.int .i64 5, .bool false, .string ⟨#[]⟩, u, nv] 43 (0, 0)) ∧ (True → nv = .slice (some ⟨gN, 0, none⟩) 4 cN) ∧ (L.getD 6 false = false → u = .slice (some ⟨gU, 0, none⟩) 3 cU) ∧ (True → w.ownsRow B 9 1 (.slice (some ⟨gN, 0, none⟩) 4 cN) 4 NS) ∧ (L.getD 4 false = false → w.ownsRow B 43 5 (.slice (some ⟨gU, 0, none⟩) 3 cU) 3 XS)
theorem J34_12_any {B : Nat} {w0 : World} {S0 b gN gU cN cU : Nat} {NS XS : List Value} {L : Array Bool} (i : Nat) {w : World} (h : J34_12 B w0 B S0 b gN gU cN cU NS XS L w) : J34_12 B w0 B S0 b gN gU cN cU NS XS (L.setIfInBounds i true) w := by
  obtain ⟨h1, h2, u, nv, h3, h4, h5, h6, h7⟩ := h
  exact ⟨h1, h2, u, nv, h3, fun h => h4 h, fun h => h5 (unset h), fun h => h6 h, fun h => h7 (unset h)⟩
theorem J34_12_le {B : Nat} {w0 : World} {S0 b gN gU cN cU : Nat} {NS XS : List Value} {L : Array Bool} {w : World} (hS : w0.heap.size = S0) (h : J34_12 B w0 B S0 b gN gU cN cU NS XS L w) : S0 ≤ w.heap.size := hS ▸ h.1.size
theorem J34_12_ext {B : Nat} {w0 : World} {S0 b gN gU cN cU : Nat} {NS XS : List Value} {L : Array Bool} (i : Nat) {w w' : World} (hS : w0.heap.size = S0) (h : J34_12 B w0 B S0 b gN gU cN cU NS XS L w) (hx : Ext w w') (hb : Below B w w') : J34_12 B w0 B S0 b gN gU cN cU NS XS (L.setIfInBounds i true) w' := by
  have hle := J34_12_le hS h
  obtain ⟨h1, h2, u, nv, h3, h4, h5, h6, h7⟩ := h
  exact ⟨h1.trans hb, fun k hk a b c => (hx.2 k (by omega)).trans (h2 k hk a b c), u, nv, blk_ext h3 hx, fun h => h4 h, fun h => h5 (unset h), fun h => own_ext (h6 h) hx, fun h => own_ext (h7 (unset h)) hx⟩
set_option maxHeartbeats 1600000 in
theorem reg34_12 {ops : Array Oper} (ho : ops = ops34_12) {Q : Exit → Act → World → Prop} {a0 : Act} {w0 : World} {B S0 b gN gU cN cU : Nat} {NS XS : List Value} {p : Nat} {gp : Nat} {gq : Nat} {kp : Nat} {c5 : Nat} {c6 : Nat} (hS : w0.heap.size = S0) (hBS : B ≤ S0) (hb : B ≤ b) (hbS : b < S0) (hbU : b ≠ gU) (hbox : w0.heap[b]? = some (.cells #[.int .i64 5, .bool false, .string ⟨#[]⟩, .slice (some ⟨gU, 0, none⟩) 3 cU, .slice (some ⟨gN, 0, none⟩) 4 cN] 43 (0, 0))) (hN : w0.ownsRow B 9 1 (.slice (some ⟨gN, 0, none⟩) 4 cN) 4 NS) (hU : w0.ownsRow B 43 5 (.slice (some ⟨gU, 0, none⟩) 3 cU) 3 XS) (hpS : p < S0) (hpb : p ≠ b) (hpN : p ≠ gN) (hpU : p ≠ gU) (hp : w0.heap[p]? = some (.cells #[.int .i64 5, .bool false, .string ⟨#[]⟩, .slice (some ⟨gp, 0, none⟩) kp c5, .slice (some ⟨gq, 0, none⟩) kp c6] 43 (0, 0))) (hs5 : a0.eval (.tmp 5) = .pointer (some ⟨b, 0, none⟩)) (hs7 : a0.eval (.tmp 7) = .pointer (some ⟨p, 0, none⟩)) (hsz : a0.tmps.size = 70)
    (HK : ∀ L a w, J34_12 B w0 B S0 b gN gU cN cU NS XS L w → a.defers = a0.defers → a.tmps.size = 70 → (∀ s, freeB ops34_12 s = true → a.eval (.tmp s) = a0.eval (.tmp s)) → (∀ i, i < 7 → R34_12 B S0 b gN gU cN cU NS XS p gp gq kp c5 c6 i (a.eval (.tmp (sl34_12 i))) w) → Q .normal a w) : (Code.region 12 ops false).wp Tryz.prog Q a0 w0 := by
  subst ho
  refine region_made_seq (n := 7) (sl := sl34_12) (J := J34_12 B w0 B S0 b gN gU cN cU NS XS) (R := R34_12 B S0 b gN gU cN cU NS XS p gp gq kp c5 c6) (by kernel_rfl) (by kernel_rfl) (by kernel_rfl) (by rw [hsz]; kernel_rfl) ?_ ⟨(Below.refl _ _), fun _ _ _ _ _ => rfl, _, _, hbox, fun _ => rfl, fun _ => rfl, fun _ => hN, fun _ => hU⟩ (fun L a w hall hf => HK L a w hf.world hf.defers (hf.size.trans hsz) hf.rest (fun i hi => hf.got i (hall i hi)))
  intro i hi L a w hs h1 hdep hd hst ho
  clear HK
  match i, hi, h1, hdep, ho with
  | 0, _, h1, hdep, ho =>
      have s5 := (hst.rest 5 (by kernel_rfl)).trans hs5
      have hr : (execOp a.eval (opAt ops34_12 0)).run Tryz.prog w = .ok (.value (.pointer (some ⟨b, 3, none⟩))) w := by
        clear hst hdep hd h1 hs ho
        generalize a.eval = ρ at s5 ⊢
        unfold execOp; rw [show (opAt ops34_12 0).op = .fieldAddr 43 (.tmp 5) 3 from by kernel_rfl]; try simp only [s5]
        go_simp
      exact op_value ho (by kernel_rfl) hr (made_val (d := 62) (by kernel_rfl) rfl (J34_12_any _ hst.world) (fun _ _ _ _ h => h))
  | 1, _, h1, hdep, ho =>
      obtain ⟨u, nv, hbx, hnv, hu, hoN, hoU⟩ := hst.world.2.2
      obtain rfl := hu (unlisted hs hd h1 (show waits .any ops34_12 6 1 = true from (by kernel_rfl)))
      have cb := fun o => cell_of_row w b o _ 43 (0, 0) hbx
      clear hbx hnv hoN hoU
      have g0 : a.eval (.tmp 62) = .pointer (some ⟨b, 3, none⟩) := hst.got 0 (hdep 0 (by kernel_rfl))
      have hr : (execOp a.eval (opAt ops34_12 1)).run Tryz.prog w = .ok (.value (.slice (some ⟨gU, 0, none⟩) 3 cU)) w := by
        clear hst hdep hd h1 hs ho
        generalize a.eval = ρ at g0 ⊢
        unfold execOp; rw [show (opAt ops34_12 1).op = .load 41 (.tmp 62) from by kernel_rfl]; try simp only [g0]
        go_simp
      exact op_value ho (by kernel_rfl) hr (made_val (d := 63) (by kernel_rfl) rfl (J34_12_any _ hst.world) (fun _ _ _ _ h => h))
  | 2, _, h1, hdep, ho =>
      have hpw := (hst.world.2.1 p hpS hpb hpN hpU).trans hp
      have cp := fun o => cell_of_row w p o _ 43 (0, 0) hpw
      clear hpw
      have s7 := (hst.rest 7 (by kernel_rfl)).trans hs7
      have hr : (execOp a.eval (opAt ops34_12 2)).run Tryz.prog w = .ok (.value (.agg #[.int .i64 5, .bool false, .string ⟨#[]⟩, .slice (some ⟨gp, 0, none⟩) kp c5, .slice (some ⟨gq, 0, none⟩) kp c6])) w := by
        clear hst hdep hd h1 hs ho
        generalize a.eval = ρ at s7 ⊢
        unfold execOp; rw [show (opAt ops34_12 2).op = .load 43 (.tmp 7) from by kernel_rfl]; try simp only [s7]
        go_simp
      exact op_value ho (by kernel_rfl) hr (made_val (d := 64) (by kernel_rfl) rfl (J34_12_any _ hst.world) (fun _ _ _ _ h => h))
  | 3, _, h1, hdep, ho =>
      have ge : a.eval (.tmp 64) = .agg #[.int .i64 5, .bool false, .string ⟨#[]⟩, .slice (some ⟨gp, 0, none⟩) kp c5, .slice (some ⟨gq, 0, none⟩) kp c6] := hst.got 2 (hdep 2 (by kernel_rfl))
      have hr : (execOp a.eval (opAt ops34_12 3)).run Tryz.prog w = .ok (.value (.slice (some ⟨w.heap.size, 0, none⟩) 1 1)) (w.alloc (.cells #[.int .i64 5, .bool false, .string ⟨#[]⟩, .slice (some ⟨gp, 0, none⟩) kp c5, .slice (some ⟨gq, 0, none⟩) kp c6] 43)) := by
        clear hst hdep hd h1 hs ho
        generalize a.eval = ρ at ge ⊢
        unfold execOp; rw [show (opAt ops34_12 3).op = .buildSlice 41 1 #[(0, .tmp 64)] from by kernel_rfl]; try simp only [ge]
        go_simp
      exact op_value ho (by kernel_rfl) hr (made_val (d := 65) (by kernel_rfl) ⟨_, _, rfl, J34_12_le hS hst.world, own_new [.int .i64 5, .bool false, .string ⟨#[]⟩, .slice (some ⟨gp, 0, none⟩) kp c5, .slice (some ⟨gq, 0, none⟩) kp c6] rfl (J34_12_le hS hst.world) (by decide)⟩ (J34_12_ext _ hS hst.world (Ext.alloc _ _) ((Below.refl _ _).alloc (Nat.le_trans hBS (J34_12_le hS hst.world)) _)) (fun j _ _ u h => R34_12_ext (Ext.alloc _ _) j u h))
  | 4, _, h1, hdep, ho =>
      obtain ⟨u, nv, hbx, hnv, hu, hoN, hoU⟩ := hst.world.2.2
      have hUw := hoU (unl h1)
      obtain ⟨gs, cs, e2, hgs, hos⟩ := hst.got 3 (hdep 3 (by kernel_rfl))
      have e1 : a.eval (.tmp 63) = .slice (some ⟨gU, 0, none⟩) 3 cU := hst.got 1 (hdep 1 (by kernel_rfl))
      obtain ⟨i9, hi9, hz9, hzz9, hzb9⟩ := info_parts info43
      have hgU : gU < S0 := by have := (World.ownsRow.lt hU gU rfl).2; omega
      have hBU : B ≤ gU := (World.ownsRow.lt hU gU rfl).1
      obtain ⟨curU, cU', hblkU⟩ := own_block hUw rfl
      have hle := J34_12_le hS hst.world
      refine op_append ho (by kernel_rfl) (wp_append_lies w (.tmp 63) (.tmp 65) 41 (show (opAt ops34_12 4).op = _ from (by kernel_rfl)) B 43 i9 (.agg #[.int .i64 0, .bool false, .string ⟨#[]⟩, .slice none 0 0, .slice none 0 0]) 5 80 Tryz.underlying41 hi9 hz9 hzz9 hzb9 rfl (by decide) _ 3 XS e1 hUw ⟨gs, 0, none⟩ 1 cs [.int .i64 5, .bool false, .string ⟨#[]⟩, .slice (some ⟨gp, 0, none⟩) kp c5, .slice (some ⟨gq, 0, none⟩) kp c6] e2 rfl (hos.cells rfl) (by intro u hu; simp only [List.mem_cons, List.not_mem_nil, or_false] at hu; rcases hu with rfl | rfl | rfl | rfl | rfl <;> rfl) (by decide) (by decide) (by decide) (by omega) _ rfl ?_)
      intro g cap w' ho' hgr hgg hlt
      have hgg2 : g = gU ∨ S0 ≤ g := by rcases hgg with h | h; exact .inl (by simpa [Value.ownBlock] using h.symm); exact .inr (by omega)
      refine made_val (d := 66) (by kernel_rfl) ⟨g, cap, rfl, hgg2, ho'⟩ ⟨hst.world.1.trans ⟨hgr.os, hgr.tape, hgr.output, hgr.size, fun k hk => hgr.block k (by omega) (by simp only [Value.ownBlock]; intro e; injection e; omega)⟩, fun k hk a b c => (hgr.block k (by omega) (by simp only [Value.ownBlock]; intro e; injection e; omega)).trans (hst.world.2.1 k hk a b c), u, nv, (hgr.block b (by omega) (by simp only [Value.ownBlock]; intro e; injection e; omega)).trans hbx, fun h => hnv h, fun h => hu (unset h), fun h => (hoN h).kept hgr (.inr (own_ne_own (hoN h) hUw rfl (by decide))), fun h => ?_⟩ ?_
      · rw [set_same (by rw [hs]; decide)] at h; cases h
      intro j hj hL u h
      match j, hj, hL, h with
      | 0, _, _, h => exact (show _ = _ from h)
      | 1, _, _, h => exact (show _ = _ from h)
      | 2, _, _, h => exact (show _ = _ from h)
      | 3, _, _, h => exact (let ⟨g, c, e, h1, h2⟩ := h; ⟨g, c, e, h1, h2.kept hgr (.inr (fun e => by simp [Value.ownBlock] at e; omega))⟩)
      | 4, hj, _, _ => exact absurd rfl hj
      | 5, _, _, h => exact (show _ = _ from h)
      | 6, hj, hL, _ => exact absurd hL (by rw [(unlisted hs hd h1 (show waits .any ops34_12 6 4 = true from (by kernel_rfl)))]; decide)
      | _ + 7, _, _, _ => exact trivial
  | 5, _, h1, hdep, ho =>
      have s5 := (hst.rest 5 (by kernel_rfl)).trans hs5
      have hr : (execOp a.eval (opAt ops34_12 5)).run Tryz.prog w = .ok (.value (.pointer (some ⟨b, 3, none⟩))) w := by
        clear hst hdep hd h1 hs ho
        generalize a.eval = ρ at s5 ⊢
        unfold execOp; rw [show (opAt ops34_12 5).op = .fieldAddr 43 (.tmp 5) 3 from by kernel_rfl]; try simp only [s5]
        go_simp
      exact op_value ho (by kernel_rfl) hr (made_val (d := 67) (by kernel_rfl) rfl (J34_12_any _ hst.world) (fun _ _ _ _ h => h))
  | 6, _, h1, hdep, ho =>
      obtain ⟨u, nv, hbx, hnv, hu, hoN, hoU⟩ := hst.world.2.2
      have hle := J34_12_le hS hst.world
      have e1 : a.eval (.tmp 67) = .pointer (some ⟨b, 3, none⟩) := hst.got 5 (hdep 5 (by kernel_rfl))
      obtain ⟨g, c, e2, hgg, hog⟩ := hst.got 4 (hdep 4 (by kernel_rfl))
      have e2' : a.eval (.tmp 66) = .slice (some ⟨g, 0, none⟩) 4 c := e2
      have hr := run_cell41 (x := .tmp 67) (y := .tmp 66) (show (opAt ops34_12 6).op = _ from (by kernel_rfl)) e1 e2' hbx (by simp)
      have hbN : b ≠ gN := fun e => own_ne_blk hN hbox (.inl (by decide)) (by rw [e]; rfl)
      refine op_skip ho (by kernel_rfl) hr (made_skip (by kernel_rfl) (show World.cell? _ _ = some (a.eval (.tmp 66)) from (by rw [e2']; exact (cell_of_row _ b 3 _ 43 (0, 0) (blk_set hbx 3 _)).trans rfl)) ⟨hst.world.1.setCell (by simpa using hb) _, fun k hk a b c => (Below.heap_setCell _ _ _ k a).trans (hst.world.2.1 k hk a b c), _, _, (blk_set hbx 3 _), fun h => hnv h, fun h => ?_, fun h => set_own (hoN h) (fun e => hbN (by simpa [Value.ownBlock] using e.symm)), fun h => set_own (hoU (unset h)) (fun e => hbU (by simpa [Value.ownBlock] using e.symm))⟩ ?_)
      · rw [set_same (by rw [hs]; decide)] at h; cases h
      intro j hj hL u h
      match j, hj, hL, h with
      | 0, _, _, h => exact (show _ = _ from h)
      | 1, _, _, h => exact (show _ = _ from h)
      | 2, _, _, h => exact (show _ = _ from h)
      | 3, _, _, h => exact (let ⟨g, c, e, h1, h2⟩ := h; ⟨g, c, e, h1, set_own h2 (fun e => by simp [Value.ownBlock] at e; omega)⟩)
      | 4, _, _, h => exact (let ⟨g, c, e, h1, h2⟩ := h; ⟨g, c, e, h1, set_own h2 (fun e => by simp [Value.ownBlock] at e; omega)⟩)
      | 5, _, _, h => exact (show _ = _ from h)
      | 6, hj, _, _ => exact absurd rfl hj
      | _ + 7, _, _, _ => exact trivial
  | k + 7, hi, _, _, _ => exact absurd hi (by omega)
set_option maxHeartbeats 1600000 in
theorem done34_12 {ops : Array Oper} (ho : ops = ops34_12) {Q : Exit → Act → World → Prop} {a0 : Act} {w0 : World} {B S0 b gN gU cN cU : Nat} {NS XS : List Value} {p : Nat} {gp : Nat} {gq : Nat} {kp : Nat} {c5 : Nat} {c6 : Nat} (hS : w0.heap.size = S0) (hBS : B ≤ S0) (hb : B ≤ b) (hbS : b < S0) (hbU : b ≠ gU) (hbox : w0.heap[b]? = some (.cells #[.int .i64 5, .bool false, .string ⟨#[]⟩, .slice (some ⟨gU, 0, none⟩) 3 cU, .slice (some ⟨gN, 0, none⟩) 4 cN] 43 (0, 0))) (hN : w0.ownsRow B 9 1 (.slice (some ⟨gN, 0, none⟩) 4 cN) 4 NS) (hU : w0.ownsRow B 43 5 (.slice (some ⟨gU, 0, none⟩) 3 cU) 3 XS) (hpS : p < S0) (hpb : p ≠ b) (hpN : p ≠ gN) (hpU : p ≠ gU) (hp : w0.heap[p]? = some (.cells #[.int .i64 5, .bool false, .string ⟨#[]⟩, .slice (some ⟨gp, 0, none⟩) kp c5, .slice (some ⟨gq, 0, none⟩) kp c6] 43 (0, 0))) (hs5 : a0.eval (.tmp 5) = .pointer (some ⟨b, 0, none⟩)) (hs7 : a0.eval (.tmp 7) = .pointer (some ⟨p, 0, none⟩)) (hsz : a0.tmps.size = 70)
    (HK : ∀ (a : Act) (w : World) (g2 c2 : Nat), a.defers = a0.defers → a.tmps.size = 70 → (∀ s, freeB ops34_12 s = true → a.eval (.tmp s) = a0.eval (.tmp s)) → Below B w0 w → (∀ k, k < S0 → k ≠ b → k ≠ gN → k ≠ gU → w.heap[k]? = w0.heap[k]?) → w.heap[b]? = some (.cells #[.int .i64 5, .bool false, .string ⟨#[]⟩, .slice (some ⟨g2, 0, none⟩) 4 c2, .slice (some ⟨gN, 0, none⟩) 4 cN] 43 (0, 0)) → w.ownsRow B 9 1 (.slice (some ⟨gN, 0, none⟩) 4 cN) 4 NS → (g2 = gU ∨ S0 ≤ g2) → w.ownsRow B 43 5 (.slice (some ⟨g2, 0, none⟩) 4 c2) 4 (XS ++ [.int .i64 5, .bool false, .string ⟨#[]⟩, .slice (some ⟨gp, 0, none⟩) kp c5, .slice (some ⟨gq, 0, none⟩) kp c6]) → Q .normal a w) : (Code.region 12 ops false).wp Tryz.prog Q a0 w0 := by
  refine reg34_12 ho hS hBS hb hbS hbU hbox hN hU hpS hpb hpN hpU hp hs5 hs7 hsz (fun L a w hJ hd hs hr hR => ?_)
  obtain ⟨hb', hun, u, nv, hbx, hnv, hu, hoN, hoU⟩ := hJ
  obtain rfl := hnv trivial
  have c3 : w.cell? ⟨b, 3, none⟩ = some (a.eval (.tmp 66)) := hR 6 (by decide)
  obtain ⟨g2, c2, e2, hg2, ho2⟩ := hR 4 (by decide)
  obtain rfl : u = .slice (some ⟨g2, 0, none⟩) 4 c2 := by have h := (cell_of_row w b 3 _ 43 (0, 0) hbx).symm.trans c3; rw [show a.eval (.tmp 66) = _ from e2] at h; simpa using h
  exact HK a w   g2 c2 hd hs hr hb' hun hbx (hoN trivial) hg2 ho2
end Go.Proofs.YtoimjnmhinfbkaaGreatDoor
