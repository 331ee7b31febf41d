import Derived.Test.YtoimjnmhinfbkaaGreatDoorK
namespace Go.Proofs.YtoimjnmhinfbkaaGreatDoor
open Go.RowKit
set_option maxRecDepth 100000

theorem code_nil (w : World) : Calls Tryz.prog 14 #[.nilIface] w fun e w' => e = .returned (.int .i64 0) ∧ w' = w := by
  go_enter Tryz.func14, Tryz.ntmps14
  go_wp2
  go_ret
  exact ⟨rfl, rfl⟩

theorem code_fault (g : Nat) (c : Int) (w : World) (h : w.cell? ⟨g, 0, none⟩ = some (.int .i64 c)) : Calls Tryz.prog 14 #[.iface 106 (.pointer (some ⟨g, 0, none⟩))] w fun e w' => e = .returned (.int .i64 c) ∧ w' = w := by
  have hta : ∀ w, (Instr.typeAssert (.iface 106 (.pointer (some ⟨g, 0, none⟩))) 29 106 true).run Tryz.prog w = .ok (.tuple #[.pointer (some ⟨g, 0, none⟩), .bool true]) w := fun _ => by kernel_rfl
  go_enter Tryz.func14, Tryz.ntmps14
  go_wp2
  go_ret
  exact ⟨rfl, rfl⟩

theorem where_nil (w : World) : Calls Tryz.prog 15 #[.nilIface] w fun e w' => e = .returned (.string ⟨#[]⟩) ∧ w' = w := by
  have hta : ∀ w, (Instr.typeAssert .nilIface 29 106 true).run Tryz.prog w = .ok (.tuple #[.pointer none, .bool false]) w := fun _ => by kernel_rfl
  go_enter Tryz.func15, Tryz.ntmps15
  go_wp2
  go_ret
  exact ⟨rfl, rfl⟩

theorem where_fault (g : Nat) (s : ByteArray) (w : World) (h : w.cell? ⟨g, 1, none⟩ = some (.string s)) : Calls Tryz.prog 15 #[.iface 106 (.pointer (some ⟨g, 0, none⟩))] w fun e w' => e = .returned (.string s) ∧ w' = w := by
  have hta : ∀ w, (Instr.typeAssert (.iface 106 (.pointer (some ⟨g, 0, none⟩))) 29 106 true).run Tryz.prog w = .ok (.tuple #[.pointer (some ⟨g, 0, none⟩), .bool true]) w := fun _ => by kernel_rfl
  go_enter Tryz.func15, Tryz.ntmps15
  go_wp2
  go_ret
  exact ⟨rfl, rfl⟩

def aliveOne : V := .mk 5 false ⟨#[]⟩ [.mk 2 false ⟨#[49]⟩ [] []] [⟨#[98]⟩]
def aliveV : V := .mk 5 false ⟨#[]⟩ [.mk 4 false ⟨#[]⟩ [aliveOne] []] [⟨#[97]⟩]

def aliveMid : V := .mk 4 false ⟨#[]⟩ [aliveOne] []
theorem alive_get1 : aliveV.get ⟨#[97]⟩ = some aliveMid := by rfl
theorem alive_get2 : aliveOne.get ⟨#[99]⟩ = none := by rfl
theorem alive_place1 : fieldPlace ⟨#[]⟩ ⟨#[97]⟩ = ⟨#[97]⟩ := by decide +kernel
theorem alive_place2 : itemPlace ⟨#[97]⟩ 0 = ⟨#[97, 91, 48, 93]⟩ := by decide +kernel
theorem alive_place3 : fieldPlace ⟨#[97, 91, 48, 93]⟩ ⟨#[99]⟩ = ⟨#[97, 91, 48, 93, 46, 99]⟩ := by decide +kernel

set_option maxHeartbeats 800000 in
theorem alive_fn (cs : List Value) (w : World) (S : Nat → Prop) (b : Nat) (t : TypeId) (hg : Glob w) (hb : w.heap[b]? = some (.cells cs.toArray t (0, 0))) (hv : aliveV.Rep w S cs) :
    Calls Tryz.prog 46 #[.pointer (some ⟨b, 0, none⟩)] w (Threw w 4 ⟨#[97, 91, 48, 93, 46, 99]⟩) := by
  have hof := of_any aliveV cs w S hv (by decide)
  obtain ⟨A, ca, B, cb, rfl, -⟩ := hv.open
  have hx := fun o => cell_of_row w b o _ t (0, 0) hb
  have HOF := Lib.hid hof
  have HG := Lib.hid hg
  clear hv hg hb hof
  go_enter Tryz.func46, Tryz.ntmps46
  go_wp2_with fail
  refine HOF.out.mono ?_
  rintro e w1 ⟨cs1, rfl, hr1, hb1⟩
  have hf1 := lfield_some aliveV aliveMid cs1 ⟨#[]⟩ ⟨#[97]⟩ w1 _ hr1 (by decide) rfl (by decide) (by decide) alive_get1
  rw [alive_place1] at hf1
  obtain ⟨A1, ca1, B1, cb1, rfl, -⟩ := hr1.open
  have HF1 := Lib.hid hf1
  clear hr1 hf1
  go_wp2_with fail
  refine HF1.out.mono ?_
  rintro e w2 ⟨cs2, rfl, hr2, hb2⟩
  obtain ⟨A2, ca2, B2, cb2, rfl, -, -, -, hl2⟩ := hr2.open
  have HB2 := Lib.hid (hb1.trans (hb2.mono hb1.size))
  have hit := items_any false ⟨#[]⟩ A2 [aliveOne] ca2 B2 0 cb2 ⟨#[97]⟩ 9 w2 _ (HG.out.below HB2.out) hl2 (by decide) (by decide) (by decide)
  have HIT := Lib.hid hit
  clear hit hl2 hr2
  go_wp2_with fail
  refine HIT.out.mono ?_
  rintro e w3 ⟨A3, c3, rfl, hb3, hc3, hrow⟩
  obtain ⟨g, rfl, hg1, hg2, hrow⟩ := hrow.resolve_left (by simp)
  obtain ⟨cs3, hr3, hv3⟩ := hrow 0 (by simp)
  rw [alive_place2] at hr3
  have hv3' : aliveOne.Rep w3 _ cs3 := hv3.agree fun b hb hlt => ⟨hb3.block b hlt, hb⟩
  have hf3 := lfield_none aliveOne cs3 ⟨#[97, 91, 48, 93]⟩ ⟨#[99]⟩ w3 _ hv3' (by decide) rfl (by decide) (by decide) alive_get2
  rw [alive_place3] at hf3
  obtain ⟨A4, ca4, B4, cb4, rfl, -⟩ := hv3.open
  have e0 := hr3 0 (by simp)
  have e1 := hr3 1 (by simp)
  have e2 := hr3 2 (by simp)
  have e3 := hr3 3 (by simp)
  have e4 := hr3 4 (by simp)
  have e5 := hr3 5 (by simp)
  simp at e0 e1 e2 e3 e4 e5
  have HF3 := Lib.hid hf3
  have HB3 := Lib.hid (HB2.out.trans (hb3.mono HB2.out.size))
  clear hf3 hv3 hv3' hr3 hrow hb1 hb2 hb3
  go_wp2_with fail
  refine HF3.out.mono ?_
  rintro e w' ⟨g', rfl, h⟩
  go_wp2
  exact ⟨rfl, Threw.of ⟨g', rfl, h⟩ HB3.out⟩

theorem try_threw {K : FuncId} {cap : Array Value} {w : World} {c : Int} {s : ByteArray} (hent : ∀ w, (callFunc K cap).run Tryz.prog w = .ok (.enter K cap) w)
    (h : Calls Tryz.prog K cap (w.alloc (.cells #[.nilIface] 29)) (Threw (w.alloc (.cells #[.nilIface] 29)) c s)) :
    Calls Tryz.prog 10 #[.func (.func K) #[] cap] w fun e w' => ∃ g, e = .returned (.iface 106 (.pointer (some ⟨g, 0, none⟩))) ∧ w'.cell? ⟨g, 0, none⟩ = some (.int .i64 c) ∧ w'.cell? ⟨g, 1, none⟩ = some (.string s) ∧ Below w.heap.size w w' := by
  refine try_any hent (h.mono ?_)
  rintro e w2 ⟨g, rfl, hg1, hg2, hg3, hb⟩
  have h0 : w2.heap[w.heap.size]? = some (.cells #[.nilIface] 29 (0, 0)) := (hb.block _ (by simp)).trans (heap_alloc_new w _)
  refine ⟨cell_of_row w2 _ 0 _ 29 (0, 0) h0, by simp [World.frozen?, h0], .inr ⟨some ⟨g, 0, none⟩, rfl, g, rfl, ?_, ?_, ?_⟩⟩
  · simp at hg1
    exact (cell_of_heap (Below.heap_setCell w2 _ _ g (by simp only; omega))).trans (cell_of_row w2 g 0 _ 114 (0, 0) hg3)
  · simp at hg1
    exact (cell_of_heap (Below.heap_setCell w2 _ _ g (by simp only; omega))).trans (cell_of_row w2 g 1 _ 114 (0, 0) hg3)
  · exact (((Below.refl _ _).alloc (Nat.le_refl _) _).trans (hb.mono (by simp))).setCell (Nat.le_refl _) _

theorem row_of_heap {w : World} {b : Nat} {cs : List Value} {t : TypeId} (h : w.heap[b]? = some (.cells cs.toArray t (0, 0))) : Row w b 0 cs := fun i hi => by
  rw [cell_of_row w b _ _ t (0, 0) h]; simp [hi]

theorem alive_rep (W : World) (n : Nat) (h0 : W.heap[n]? = some (.cells #[.string ⟨#[98]⟩] 9 (0, 0)))
    (h1 : W.heap[n + 1]? = some (.cells #[.int .i64 2, .bool false, .string ⟨#[49]⟩, .slice none 0 0, .slice none 0 0] 27 (0, 0)))
    (h3 : W.heap[n + 1 + 1 + 1]? = some (.cells #[.string ⟨#[97]⟩] 9 (0, 0)))
    (h4 : W.heap[n + 1 + 1 + 1 + 1]? = some (.cells #[.int .i64 5, .bool false, .string ⟨#[]⟩, .slice (some ⟨n + 1, 0, none⟩) 1 1, .slice (some ⟨n, 0, none⟩) 1 1] 27 (0, 0)))
    (h5 : W.heap[n + 1 + 1 + 1 + 1 + 1]? = some (.cells #[.int .i64 4, .bool false, .string ⟨#[]⟩, .slice (some ⟨n + 1 + 1 + 1 + 1, 0, none⟩) 1 1, .slice none 0 0] 27 (0, 0))) :
    aliveV.Rep W (fun _ => True) [.int .i64 5, .bool false, .string ⟨#[]⟩, .slice (some ⟨n + 1 + 1 + 1 + 1 + 1, 0, none⟩) 1 1, .slice (some ⟨n + 1 + 1 + 1, 0, none⟩) 1 1] := by
  refine ⟨_, 1, _, 1, rfl, Nat.le_refl _, Nat.le_refl _, .inr ⟨_, 0, rfl, trivial, row_of_heap h3⟩, .inr ⟨_, 0, rfl, trivial, ⟨_, row_of_heap h5, ?_⟩, trivial⟩⟩
  refine ⟨_, 1, _, 0, rfl, Nat.le_refl _, Nat.le_refl _, .inl rfl, .inr ⟨_, 0, rfl, trivial, ⟨_, row_of_heap h4, ?_⟩, trivial⟩⟩
  refine ⟨_, 1, _, 1, rfl, Nat.le_refl _, Nat.le_refl _, .inr ⟨_, 0, rfl, trivial, row_of_heap h0⟩, .inr ⟨_, 0, rfl, trivial, ⟨_, row_of_heap h1, ?_⟩, trivial⟩⟩
  exact ⟨_, 0, _, 0, rfl, Nat.le_refl _, Nat.le_refl _, .inl rfl, .inl rfl⟩

set_option maxHeartbeats 800000 in
theorem alive_any (w : World) (hg : Glob w) : Calls Tryz.prog 8 #[] w fun e w' => e = .returned (.bool true) ∧ Below w.heap.size w w' := by
  have HG := Lib.hid hg
  clear hg
  have hmf : ∀ (fn : Fn) (first cap : Array Value) (w : World), (Instr.makeFunc fn first cap).run Tryz.prog w = .ok (.func fn first cap) w := fun _ _ _ _ => rfl
  go_enter Tryz.func8, Tryz.ntmps8
  go_wp2_with fail
  refine (try_threw (c := 4) (s := ⟨#[97, 91, 48, 93, 46, 99]⟩) (fun _ => by kernel_rfl) (alive_fn [.int .i64 5, .bool false, .string ⟨#[]⟩, .slice (some ⟨w.heap.size + 1 + 1 + 1 + 1 + 1, 0, none⟩) 1 1, .slice (some ⟨w.heap.size + 1 + 1 + 1, 0, none⟩) 1 1] _ (fun _ => True) _ 27 ?_ ?_ ?_)).mono ?_
  · refine HG.out.keep fun b hb _ => ?_
    (repeat rw [alloc_before (by first | assumption | (simp; done) | (simp; omega))])
  · rw [alloc_before (by simp)]; exact alloc_at (by simp)
  · refine alive_rep _ w.heap.size ?_ ?_ ?_ ?_ ?_
    all_goals
      (repeat rw [alloc_before (by first | (simp; done) | (simp; omega))])
      exact alloc_at (by simp)
  · rintro e w' ⟨g, rfl, hc0, hc1, hb⟩
    go_wp2_with (first | (go_at_call 14; refine (code_fault g 4 _ hc0).mono ?_; rintro e w2 ⟨rfl, rfl⟩) | (go_at_call 15; refine (where_fault g _ _ hc1).mono ?_; rintro e w2 ⟨rfl, rfl⟩))
    go_ret
    refine ⟨rfl, Below.trans ?_ (hb.mono (by simp; omega))⟩
    (repeat (first | with_reducible refine Below.alloc ?_ (by first | (simp; done) | (simp; omega)) _))
    exact Below.refl _ _

end Go.Proofs.YtoimjnmhinfbkaaGreatDoor
