import Derived.Test.YtoimjnmhinfbkaaGreatDoorVx
namespace Go.Proofs.YtoimjnmhinfbkaaGreatDoor
open Go.RowKit
set_option maxRecDepth 100000

theorem code_nil' (w : World) : Calls Tryz.prog 14 #[.nilIface] w fun e w' => e = .returned (.int .i64 0) ∧ w = w' := (code_nil w).mono fun _ _ h => ⟨h.1, h.2.symm⟩
theorem where_nil' (w : World) : Calls Tryz.prog 15 #[.nilIface] w fun e w' => e = .returned (.string ⟨#[]⟩) ∧ w = w' := (where_nil w).mono fun _ _ h => ⟨h.1, h.2.symm⟩
theorem code_fault' (g : Nat) (c : Int) (w : World) (h : w.cell? ⟨g, 0, none⟩ = some (.int .i64 c)) : Calls Tryz.prog 14 #[.iface 106 (.pointer (some ⟨g, 0, none⟩))] w fun e w' => e = .returned (.int .i64 c) ∧ w = w' := (code_fault g c w h).mono fun _ _ h => ⟨h.1, h.2.symm⟩
theorem where_fault' (g : Nat) (s : ByteArray) (w : World) (h : w.cell? ⟨g, 1, none⟩ = some (.string s)) : Calls Tryz.prog 15 #[.iface 106 (.pointer (some ⟨g, 0, none⟩))] w fun e w' => e = .returned (.string s) ∧ w = w' := (where_fault g s w h).mono fun _ _ h => ⟨h.1, h.2.symm⟩

/-- what is so behind 'Try', an act having gone through. -/
def TryOK (B0 : Nat) (w : World) (S : Nat → Prop) (bn bt : Nat) (v : V) (p tx : ByteArray) (tn : Int) (ti : Bool) (e : Ending) (w' : World) : Prop :=
  e = .returned .nilIface ∧ Below B0 w w' ∧ Also (fun b => b ≠ bn ∧ b ≠ bt) w w' ∧ w'.heap[bt]? = some (.cells #[.string tx, .int .i64 tn, .bool ti, .int .i64 0, .string ⟨#[]⟩] 50 (0, 0)) ∧
    ∃ cs, w'.heap[bn]? = some (.cells (cs ++ [.string p]).toArray 32 (0, 0)) ∧ v.Rep w' (fun b => (S b ∧ b < B0) ∨ (w.heap.size ≤ b ∧ b < w'.heap.size)) cs

theorem try_ok {K : FuncId} {cap : Array Value} {w : World} {B0 : Nat} {S : Nat → Prop} {bn bt : Nat} {v : V} {p tx : ByteArray} {tn : Int} {ti : Bool} (hent : ∀ w, (callFunc K cap).run Tryz.prog w = .ok (.enter K cap) w)
    (hB : B0 ≤ w.heap.size) (hbn : bn < w.heap.size) (hbt : bt < w.heap.size)
    (h : Calls Tryz.prog K cap (w.alloc (.cells #[.nilIface] 29)) (StepOK B0 (w.alloc (.cells #[.nilIface] 29)) S bn bt v p tx tn ti)) :
    Calls Tryz.prog 10 #[.func (.func K) #[] cap] w (TryOK B0 w S bn bt v p tx tn ti) := by
  refine try_any hent (h.mono ?_)
  rintro e w2 ⟨rfl, hb, hal, ht, cs, hn, hrep⟩
  have h0 : w2.heap[w.heap.size]? = some (.cells #[.nilIface] 29 (0, 0)) := (hal.block _ (by omega) (by simp)).trans (heap_alloc_new w _)
  refine ⟨cell_of_row w2 _ 0 _ 29 (0, 0) h0, by simp [World.frozen?, h0], .inl ⟨rfl, rfl, ?_, ?_, ?_, cs, ?_, ?_⟩⟩
  · exact (((Below.refl _ _).alloc hB _).trans hb).setCell (by simp only; omega) _
  · refine ⟨by rw [setCell_size]; have := hal.size; simp at this; omega, fun b hb2 hlt => ?_⟩
    rw [Below.heap_setCell _ _ _ b (by simp only; omega), hal.block b hb2 (by simp; omega)]
    exact Below.heap_alloc w _ b hlt
  · rw [Below.heap_setCell _ _ _ bt (by simp only; omega)]; exact ht
  · rw [Below.heap_setCell _ _ _ bn (by simp only; omega)]; exact hn
  · refine hrep.agree fun b hb2 hlt => ?_
    have hs : (w.alloc (.cells #[.nilIface] 29)).heap.size = w.heap.size + 1 := by simp
    rcases hb2 with ⟨h1, h2⟩ | ⟨h1, h2⟩
    · exact ⟨Below.heap_setCell _ _ _ b (by simp only; omega), .inl ⟨h1, h2⟩⟩
    · exact ⟨Below.heap_setCell _ _ _ b (by simp only; omega), .inr ⟨by omega, by rw [setCell_size]; omega⟩⟩

/-- what step answers. -/
def StepRes (w : World) (S : Nat → Prop) (v : V) (p tx : ByteArray) (tn : Int) (ti : Bool) (c : Int) (wh : ByteArray) (e : Ending) (w' : World) : Prop :=
  ∃ cs, e = .returned (.tuple #[.agg (cs ++ [.string p]).toArray, .agg #[.string tx, .int .i64 tn, .bool ti, .int .i64 c, .string wh]]) ∧ v.Rep w' (fun b => (S b ∧ b < w.heap.size) ∨ (w.heap.size ≤ b ∧ b < w'.heap.size)) cs ∧ Below w.heap.size w w'

section
variable (k : Int) (t : Bool) (x : ByteArray) (A : Option Addr) (nl ca : Nat) (B : Option Addr) (nn cb : Nat) (p : ByteArray) (kd n most : Int) (name : ByteArray) (T : Option Addr) (nt ct : Nat) (w : World)

theorem boxes_at (w5 : World) (hw : w5 = ((((((w.alloc (.cells #[.int .i64 k, .bool t, .string x, .slice A nl ca, .slice B nn cb, .string p] 32)).alloc (.cells #[.int .i64 kd, .int .i64 n, .int .i64 most, .string name, .slice T nt ct] 48)).alloc (.cells #[.int .i64 0, .bool false, .string ⟨#[]⟩, .slice none 0 0, .slice none 0 0, .string ⟨#[]⟩] 32)).alloc (.cells #[.string ⟨#[]⟩, .int .i64 0, .bool false, .int .i64 0, .string ⟨#[]⟩] 50)).alloc (.cells #[.string ⟨#[]⟩, .int .i64 0, .bool false, .int .i64 0, .string ⟨#[]⟩] 50)).alloc (.cells #[.int .i64 k, .bool t, .string x, .slice A nl ca, .slice B nn cb, .string p] 32))) :
    Boxes (w5.alloc (.cells #[.nilIface] 29)) w.heap.size (w.heap.size + 1) (w.heap.size + 1 + 1 + 1 + 1 + 1) (w.heap.size + 1 + 1 + 1 + 1) [.int .i64 k, .bool t, .string x, .slice A nl ca, .slice B nn cb, .string p] [.int .i64 kd, .int .i64 n, .int .i64 most, .string name, .slice T nt ct] ∧
    w5.heap.size = w.heap.size + 1 + 1 + 1 + 1 + 1 + 1 ∧ Below w.heap.size w w5 ∧ w5.heap[w.heap.size + 1 + 1]? = some (.cells #[.int .i64 0, .bool false, .string ⟨#[]⟩, .slice none 0 0, .slice none 0 0, .string ⟨#[]⟩] 32 (0, 0)) ∧
      w5.heap[w.heap.size + 1 + 1 + 1]? = some (.cells #[.string ⟨#[]⟩, .int .i64 0, .bool false, .int .i64 0, .string ⟨#[]⟩] 50 (0, 0)) := by
  subst hw
  refine ⟨⟨?_, ?_, ?_, ?_, by omega, by omega, by omega⟩, by simp, ?_, ?_, ?_⟩
  · (repeat rw [alloc_before (by first | (simp; done) | (simp; omega))]); exact alloc_at rfl
  · (repeat rw [alloc_before (by first | (simp; done) | (simp; omega))]); exact alloc_at (by simp)
  · (repeat rw [alloc_before (by first | (simp; done) | (simp; omega))]); exact alloc_at (by simp)
  · (repeat rw [alloc_before (by first | (simp; done) | (simp; omega))]); exact alloc_at (by simp)
  · (repeat (first | with_reducible refine Below.alloc ?_ (by first | (simp; done) | (simp; omega)) _)); exact Below.refl _ _
  · (repeat rw [alloc_before (by first | (simp; done) | (simp; omega))]); exact alloc_at (by simp)
  · (repeat rw [alloc_before (by first | (simp; done) | (simp; omega))]); exact alloc_at (by simp)

set_option maxHeartbeats 1000000 in
theorem step_ok (S : Nat → Prop) (v' : V) (p' tx : ByteArray) (tn : Int) (ti : Bool)
    (h : ∀ (w' : World) (bl ba bn bt : Nat), Boxes w' bl ba bn bt [.int .i64 k, .bool t, .string x, .slice A nl ca, .slice B nn cb, .string p] [.int .i64 kd, .int .i64 n, .int .i64 most, .string name, .slice T nt ct] → Below w.heap.size w w' → w.heap.size ≤ bl →
      Calls Tryz.prog 56 #[.pointer (some ⟨ba, 0, none⟩), .pointer (some ⟨bl, 0, none⟩), .pointer (some ⟨bn, 0, none⟩), .pointer (some ⟨bt, 0, none⟩)] w' (StepOK w.heap.size w' S bn bt v' p' tx tn ti)) :
    Calls Tryz.prog 18 #[.agg #[.int .i64 k, .bool t, .string x, .slice A nl ca, .slice B nn cb, .string p], .agg #[.int .i64 kd, .int .i64 n, .int .i64 most, .string name, .slice T nt ct]] w (StepRes w S v' p' tx tn ti 0 ⟨#[]⟩) := by
  have H := Lib.hid h
  clear h
  have hmf : ∀ (fn : Fn) (first cap : Array Value) (w : World), (Instr.makeFunc fn first cap).run Tryz.prog w = .ok (.func fn first cap) w := fun _ _ _ _ => rfl
  go_enter Tryz.func18, Tryz.ntmps18
  go_wp2_with fail
  refine (try_ok (B0 := w.heap.size) (S := S) (v := v') (p := p') (tx := tx) (tn := tn) (ti := ti) (fun _ => by kernel_rfl) (boxes_at k t x A nl ca B nn cb p kd n most name T nt ct w _ rfl).2.2.1.size (by simp) (by simp)
    (H.out _ _ _ _ _ (boxes_at k t x A nl ca B nn cb p kd n most name T nt ct w _ rfl).1 ((boxes_at k t x A nl ca B nn cb p kd n most name T nt ct w _ rfl).2.2.1.alloc (boxes_at k t x A nl ca B nn cb p kd n most name T nt ct w _ rfl).2.2.1.size _) (Nat.le_refl _))).mono ?_
  obtain ⟨-, hsz, hbel, hr1, hr2⟩ := boxes_at k t x A nl ca B nn cb p kd n most name T nt ct w _ rfl
  rintro e w1 ⟨rfl, hb, hal, ht, cs, hn, hrep⟩
  have hs1 := hal.size
  have q1 := (hal.block _ (by omega) (by omega)).trans hr1
  have q2 := (hal.block _ (by omega) (by omega)).trans hr2
  have HREP := Lib.hid (hrep.agree (w' := w1) (S' := fun b => (S b ∧ b < w.heap.size) ∨ (w.heap.size + 6 ≤ b ∧ b < w1.heap.size)) fun b h _ => ⟨rfl, h.imp id fun h => ⟨by omega, h.2⟩⟩)
  obtain ⟨A1, ca1, B1, cb1, rfl, -⟩ := hrep.open
  have HB := Lib.hid (hbel.trans hb)
  have hsw : w.heap.size + 6 ≤ w1.heap.size := by omega
  have cn := fun o => cell_of_row w1 _ o _ 32 (0, 0) hn
  have ct' := fun o => cell_of_row w1 _ o _ 50 (0, 0) ht
  have cr := fun o => cell_of_row w1 _ o _ 32 (0, 0) q1
  have cs' := fun o => cell_of_row w1 _ o _ 50 (0, 0) q2
  have fn : ∀ o, w1.frozen? ⟨w.heap.size + 1 + 1 + 1 + 1 + 1, o, none⟩ = false := fun o => by simp [World.frozen?, hn]
  have ft : ∀ o, w1.frozen? ⟨w.heap.size + 1 + 1 + 1 + 1, o, none⟩ = false := fun o => by simp [World.frozen?, ht]
  have fr : ∀ o, w1.frozen? ⟨w.heap.size + 1 + 1, o, none⟩ = false := fun o => by simp [World.frozen?, q1]
  have fs : ∀ o, w1.frozen? ⟨w.heap.size + 1 + 1 + 1, o, none⟩ = false := fun o => by simp [World.frozen?, q2]
  simp only [List.cons_append, List.nil_append] at cn
  clear hb hal ht hn hrep hr1 hr2 hbel q1 q2 hsz hs1
  go_wp2_with (first | (go_at_call 14; refine (code_nil' _).mono ?_; rintro e w2 ⟨rfl, rfl⟩) | (go_at_call 15; refine (where_nil' _).mono ?_; rintro e w2 ⟨rfl, rfl⟩))
  go_region
  go_wp2
  refine bodyPost_ret (v := .tuple #[.agg #[.int .i64 v'.kind, .bool v'.tr, .string v'.text, .slice A1 v'.list.length ca1, .slice B1 v'.names.length cb1, .string p'], .agg #[.string tx, .int .i64 tn, .bool ti, .int .i64 0, .string ⟨#[]⟩]]) (by simp [results, Tryz.results18, go_sem, cr, cs']) rfl ?_
  refine ⟨[.int .i64 v'.kind, .bool v'.tr, .string v'.text, .slice A1 v'.list.length ca1, .slice B1 v'.names.length cb1], rfl, HREP.out.also (P := fun b => b < w.heap.size ∨ w.heap.size + 6 ≤ b) ?_ (fun b hb hlt => ?_), ?_⟩
  · (repeat (first | with_reducible refine Also.drew ?_ | with_reducible refine Also.setCell ?_ (by simp; try omega) _))
    exact Also.refl _ _
  · have hz : w1.heap.size ≤ (World.heap _).size := Nat.le_refl _
    refine ⟨hb.imp (fun h => h.2) (fun h => h.1), hb.imp id (fun h => ⟨by omega, ?_⟩)⟩
    simp only [setCell_size, World.drew]
    omega
  · (repeat (first | with_reducible refine Below.drew ?_ | with_reducible refine Below.setCell ?_ (by simp only; omega) _))
    exact HB.out

set_option maxHeartbeats 1000000 in
theorem step_threw (S : Nat → Prop) (v : V) (hv : v.Rep w S [.int .i64 k, .bool t, .string x, .slice A nl ca, .slice B nn cb]) (c : Int) (wh : ByteArray)
    (h : ∀ (w' : World) (bl ba bn bt : Nat), Boxes w' bl ba bn bt [.int .i64 k, .bool t, .string x, .slice A nl ca, .slice B nn cb, .string p] [.int .i64 kd, .int .i64 n, .int .i64 most, .string name, .slice T nt ct] → Below w.heap.size w w' → w.heap.size ≤ bl →
      Calls Tryz.prog 56 #[.pointer (some ⟨ba, 0, none⟩), .pointer (some ⟨bl, 0, none⟩), .pointer (some ⟨bn, 0, none⟩), .pointer (some ⟨bt, 0, none⟩)] w' (Threw w' c wh)) :
    Calls Tryz.prog 18 #[.agg #[.int .i64 k, .bool t, .string x, .slice A nl ca, .slice B nn cb, .string p], .agg #[.int .i64 kd, .int .i64 n, .int .i64 most, .string name, .slice T nt ct]] w (StepRes w S v p ⟨#[]⟩ 0 false c wh) := by
  have H := Lib.hid h
  have HV := Lib.hid hv
  clear h hv
  have hmf : ∀ (fn : Fn) (first cap : Array Value) (w : World), (Instr.makeFunc fn first cap).run Tryz.prog w = .ok (.func fn first cap) w := fun _ _ _ _ => rfl
  go_enter Tryz.func18, Tryz.ntmps18
  go_wp2_with fail
  refine (try_threw (c := c) (s := wh) (fun _ => by kernel_rfl)
    (H.out _ _ _ _ _ (boxes_at k t x A nl ca B nn cb p kd n most name T nt ct w _ rfl).1 ((boxes_at k t x A nl ca B nn cb p kd n most name T nt ct w _ rfl).2.2.1.alloc (boxes_at k t x A nl ca B nn cb p kd n most name T nt ct w _ rfl).2.2.1.size _) (Nat.le_refl _))).mono ?_
  obtain ⟨hbx, hsz, hbel, hr1, hr2⟩ := boxes_at k t x A nl ca B nn cb p kd n most name T nt ct w _ rfl
  have hbn := hbx.n
  have hbt := hbx.t
  rw [alloc_before (by simp)] at hbn hbt
  rintro e w1 ⟨g, rfl, hg0, hg1, hb⟩
  have hs1 := hb.size
  have hn := (hb.block _ (by omega)).trans hbn
  have ht := (hb.block _ (by omega)).trans hbt
  have q1 := (hb.block _ (by omega)).trans hr1
  have q2 := (hb.block _ (by omega)).trans hr2
  have hbel2 := hbel.trans (hb.mono hbel.size)
  have hrep : v.Rep w1 (fun b => (S b ∧ b < w.heap.size) ∨ (w.heap.size + 6 ≤ b ∧ b < w1.heap.size)) [.int .i64 k, .bool t, .string x, .slice A nl ca, .slice B nn cb] := HV.out.agree fun b hS hlt => ⟨hbel2.block b hlt, .inl ⟨hS, hlt⟩⟩
  have HREP := Lib.hid hrep
  obtain ⟨A1, ca1, B1, cb1, hcs, -⟩ := hrep.open
  injection hcs with e1 hcs
  injection hcs with e2 hcs
  injection hcs with e3 hcs
  injection hcs with e4 hcs
  injection hcs with e5 hcs
  injection e1 with _ e1
  injection e2 with e2
  injection e3 with e3
  injection e4 with e4a e4b e4c
  injection e5 with e5a e5b e5c
  subst e1 e2 e3 e4a e4b e4c e5a e5b e5c
  have HB := Lib.hid hbel2
  have hsw : w.heap.size + 6 ≤ w1.heap.size := by omega
  have cn := fun o => cell_of_row w1 _ o _ 32 (0, 0) hn
  have ct' := fun o => cell_of_row w1 _ o _ 50 (0, 0) ht
  have cr := fun o => cell_of_row w1 _ o _ 32 (0, 0) q1
  have cs' := fun o => cell_of_row w1 _ o _ 50 (0, 0) q2
  have fn : ∀ o, w1.frozen? ⟨w.heap.size + 1 + 1 + 1 + 1 + 1, o, none⟩ = false := fun o => by simp [World.frozen?, hn]
  have ft : ∀ o, w1.frozen? ⟨w.heap.size + 1 + 1 + 1 + 1, o, none⟩ = false := fun o => by simp [World.frozen?, ht]
  have fr : ∀ o, w1.frozen? ⟨w.heap.size + 1 + 1, o, none⟩ = false := fun o => by simp [World.frozen?, q1]
  have fs : ∀ o, w1.frozen? ⟨w.heap.size + 1 + 1 + 1, o, none⟩ = false := fun o => by simp [World.frozen?, q2]
  clear hb hn ht hrep hr1 hr2 hbel hbel2 q1 q2 hsz hs1 hbx hbn hbt
  go_wp2_with (first | (go_at_call 14; refine (code_fault' g c _ hg0).mono ?_; rintro e w2 ⟨rfl, rfl⟩) | (go_at_call 15; refine (where_fault' g wh _ hg1).mono ?_; rintro e w2 ⟨rfl, rfl⟩))
  go_region
  go_wp2
  refine bodyPost_ret (v := .tuple #[.agg #[.int .i64 v.kind, .bool v.tr, .string v.text, .slice A v.list.length ca, .slice B v.names.length cb, .string p], .agg #[.string ⟨#[]⟩, .int .i64 0, .bool false, .int .i64 c, .string wh]]) (by simp [results, Tryz.results18, go_sem, cr, cs']) rfl ?_
  refine ⟨[.int .i64 v.kind, .bool v.tr, .string v.text, .slice A v.list.length ca, .slice B v.names.length cb], rfl, HREP.out.also (P := fun b => b < w.heap.size ∨ w.heap.size + 6 ≤ b) ?_ (fun b hb hlt => ?_), ?_⟩
  · (repeat (first | with_reducible refine Also.drew ?_ | with_reducible refine Also.setCell ?_ (by simp; try omega) _))
    exact Also.refl _ _
  · have hz : w1.heap.size ≤ (World.heap _).size := Nat.le_refl _
    refine ⟨hb.imp (fun h => h.2) (fun h => h.1), hb.imp id (fun h => ⟨by omega, ?_⟩)⟩
    simp only [setCell_size, World.drew]
    omega
  · (repeat (first | with_reducible refine Below.drew ?_ | with_reducible refine Below.setCell ?_ (by simp only; omega) _))
    exact HB.out
end

end Go.Proofs.YtoimjnmhinfbkaaGreatDoor
