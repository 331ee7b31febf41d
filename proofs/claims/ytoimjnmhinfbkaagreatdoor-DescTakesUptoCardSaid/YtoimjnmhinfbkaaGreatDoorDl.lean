import Derived.Test.YtoimjnmhinfbkaaGreatDoorDk
namespace Go.Proofs.YtoimjnmhinfbkaaGreatDoor
open Go.RowKit
set_option maxRecDepth 100000

theorem cells662 {w : World} {b0 b1 b2 : Nat} {t0 t1 t2 : TypeId} {x0 x1 x2 x3 x4 x5 x6 x7 x8 x9 x10 x11 x12 x13 : Value} (h0 : w.heap[b0]? = some (.cells #[x0, x1, x2, x3, x4, x5] t0 (0, 0))) (h1 : w.heap[b1]? = some (.cells #[x6, x7, x8, x9, x10, x11] t1 (0, 0))) (h2 : w.heap[b2]? = some (.cells #[x12, x13] t2 (0, 0))) :
    w.cell? ⟨b0, 0, none⟩ = some x0 ∧ w.cell? ⟨b0, 1, none⟩ = some x1 ∧ w.cell? ⟨b0, 2, none⟩ = some x2 ∧ w.cell? ⟨b0, 3, none⟩ = some x3 ∧ w.cell? ⟨b0, 4, none⟩ = some x4 ∧ w.cell? ⟨b0, 5, none⟩ = some x5 ∧ w.cell? ⟨b1, 0, none⟩ = some x6 ∧ w.cell? ⟨b1, 1, none⟩ = some x7 ∧ w.cell? ⟨b1, 2, none⟩ = some x8 ∧ w.cell? ⟨b1, 3, none⟩ = some x9 ∧ w.cell? ⟨b1, 4, none⟩ = some x10 ∧ w.cell? ⟨b1, 5, none⟩ = some x11 ∧ w.cell? ⟨b2, 0, none⟩ = some x12 ∧ w.cell? ⟨b2, 1, none⟩ = some x13 :=
  ⟨by rw [cell_of_row w b0 0 _ _ (0, 0) h0]; rfl, by rw [cell_of_row w b0 1 _ _ (0, 0) h0]; rfl, by rw [cell_of_row w b0 2 _ _ (0, 0) h0]; rfl, by rw [cell_of_row w b0 3 _ _ (0, 0) h0]; rfl, by rw [cell_of_row w b0 4 _ _ (0, 0) h0]; rfl, by rw [cell_of_row w b0 5 _ _ (0, 0) h0]; rfl, by rw [cell_of_row w b1 0 _ _ (0, 0) h1]; rfl, by rw [cell_of_row w b1 1 _ _ (0, 0) h1]; rfl, by rw [cell_of_row w b1 2 _ _ (0, 0) h1]; rfl, by rw [cell_of_row w b1 3 _ _ (0, 0) h1]; rfl, by rw [cell_of_row w b1 4 _ _ (0, 0) h1]; rfl, by rw [cell_of_row w b1 5 _ _ (0, 0) h1]; rfl, by rw [cell_of_row w b2 0 _ _ (0, 0) h2]; rfl, by rw [cell_of_row w b2 1 _ _ (0, 0) h2]; rfl⟩
theorem cells332 {w : World} {b0 b1 b2 : Nat} {t0 t1 t2 : TypeId} {x0 x1 x2 x3 x4 x5 x6 x7 : Value} (h0 : w.heap[b0]? = some (.cells #[x0, x1, x2] t0 (0, 0))) (h1 : w.heap[b1]? = some (.cells #[x3, x4, x5] t1 (0, 0))) (h2 : w.heap[b2]? = some (.cells #[x6, x7] t2 (0, 0))) :
    w.cell? ⟨b0, 0, none⟩ = some x0 ∧ w.cell? ⟨b0, 1, none⟩ = some x1 ∧ w.cell? ⟨b0, 2, none⟩ = some x2 ∧ w.cell? ⟨b1, 0, none⟩ = some x3 ∧ w.cell? ⟨b1, 1, none⟩ = some x4 ∧ w.cell? ⟨b1, 2, none⟩ = some x5 ∧ w.cell? ⟨b2, 0, none⟩ = some x6 ∧ w.cell? ⟨b2, 1, none⟩ = some x7 :=
  ⟨by rw [cell_of_row w b0 0 _ _ (0, 0) h0]; rfl, by rw [cell_of_row w b0 1 _ _ (0, 0) h0]; rfl, by rw [cell_of_row w b0 2 _ _ (0, 0) h0]; rfl, by rw [cell_of_row w b1 0 _ _ (0, 0) h1]; rfl, by rw [cell_of_row w b1 1 _ _ (0, 0) h1]; rfl, by rw [cell_of_row w b1 2 _ _ (0, 0) h1]; rfl, by rw [cell_of_row w b2 0 _ _ (0, 0) h2]; rfl, by rw [cell_of_row w b2 1 _ _ (0, 0) h2]; rfl⟩

set_option maxHeartbeats 8000000 in
theorem takes_any (v : V) (cs : List Value) (w : World) (S : Nat → Prop) (hg : Glob w) (hv : v.Rep w S cs) (hb : v.bulk ≤ 4194304) :
    Calls Tryz.prog 5 #[.agg cs.toArray] w fun e w' => e = .returned (.bool true) ∧ Below w.heap.size w w' := by
  obtain ⟨d1, d2, d3, d4, d5, d6, hD⟩ : ∃ d1 d2 d3 d4 d5 d6, descE (takeA v ⟨#[]⟩) = (d1, d2, d3, d4, d5, d6) := ⟨_, _, _, _, _, _, rfl⟩
  obtain ⟨q1, q2, q3, hQ⟩ : ∃ q1 q2 q3, platE (platA v ⟨#[]⟩) = (q1, q2, q3) := ⟨_, _, _, rfl⟩
  obtain ⟨c1, hc1⟩ : ∃ c, codeE (takeA v ⟨#[]⟩) = c := ⟨_, rfl⟩
  obtain ⟨p1, hp1⟩ : ∃ p, whereE (takeA v ⟨#[]⟩) = p := ⟨_, rfl⟩
  obtain ⟨c2, hc2⟩ : ∃ c, codeE (platA v ⟨#[]⟩) = c := ⟨_, rfl⟩
  obtain ⟨p2, hp2⟩ : ∃ p, whereE (platA v ⟨#[]⟩) = p := ⟨_, rfl⟩
  have HV := Lib.hid hv
  have HG := Lib.hid hg
  have HPA := Lib.hid (fun W (hW : Below w.heap.size w W) => (parse_desc v cs W S (hg.below hW) (hv.agree fun b hs hlt => ⟨hW.block b hlt, hs⟩) hb).mono (R' := fun e w' => ∃ ev, e = .returned (.tuple #[.agg #[.string d1, .string d2, .int .i64 d3, .string d4, .string d5, .string d6], ev]) ∧ ErrAt W.heap.size w' ev c1 p1 ∧ Below W.heap.size W w') fun e w' ⟨ev, he, h2, h3⟩ => by
    rw [hD] at he; rw [hc1, hp1] at h2; exact ⟨ev, he, h2, h3⟩)
  have HTD := Lib.hid (fun W (csD : List Value) (S' : Nat → Prop) (hW : v.Rep W S' csD) => (take_doc v csD ⟨#[]⟩ W S' hW hb (by decide)).mono (R' := fun e w' => e = .returned (.tuple #[.agg #[.string d1, .string d2, .int .i64 d3, .string d4, .string d5, .string d6], .agg #[.int .i64 c1, .string p1]]) ∧ Below W.heap.size W w') fun e w' ⟨he, h2⟩ => by
    rw [hD, hc1, hp1] at he; exact ⟨he, h2⟩)
  have HPD := Lib.hid (fun W (csD : List Value) (S' : Nat → Prop) (hW : v.Rep W S' csD) => (plat_doc v csD ⟨#[]⟩ W S' hW hb (by decide)).mono (R' := fun e w' => e = .returned (.tuple #[.agg #[.string q1, .string q2, .string q3], .agg #[.int .i64 c2, .string p2]]) ∧ Below W.heap.size W w') fun e w' ⟨he, h2⟩ => by
    rw [hQ, hc2, hp2] at he; exact ⟨he, h2⟩)
  have HT28 := Lib.hid (fun W (hW : Below w.heap.size w W) bv bg hbv hbg => (try_take28 v cs W S bv bg bg (hg.below hW) hbv (hv.agree fun b hs hlt => ⟨hW.block b hlt, hs⟩) hb hbg (Nat.le_refl _)).mono (R' := TryD bg W bg #[.string d1, .string d2, .int .i64 d3, .string d4, .string d5, .string d6] 62 c1 p1) fun e w' h => by
    rw [hD, hc1, hp1] at h; exact h)
  have HT30 := Lib.hid (fun W (hW : Below w.heap.size w W) bv bg hbv hbg => (try_plat30 v cs W S bv bg bg (hg.below hW) hbv (hv.agree fun b hs hlt => ⟨hW.block b hlt, hs⟩) hb hbg (Nat.le_refl _)).mono (R' := TryD bg W bg #[.string q1, .string q2, .string q3] 60 c2 p2) fun e w' h => by
    rw [hQ, hc2, hp2] at h; exact h)
  have HLA := Lib.hid (fun W (hW : Below w.heap.size w W) => large_any v cs W S hb (hv.agree fun b hs hlt => ⟨hW.block b hlt, hs⟩))
  have HDO := Lib.hid (fun W (hW : Below w.heap.size w W) => document_any v cs W S hb (hv.agree fun b hs hlt => ⟨hW.block b hlt, hs⟩))
  obtain ⟨A, ca, B, cb, rfl, -⟩ := hv.open
  clear hv hg hD hQ hc1 hp1 hc2 hp2
  have hmf : ∀ (fn : Fn) (first cap : Array Value) (w : World), (Instr.makeFunc fn first cap).run Tryz.prog w = .ok (.func fn first cap) w := fun _ _ _ _ => rfl
  go_enter Tryz.func5, Tryz.ntmps5
  go_wp2_with fail
  refine (alive23 _ (HG.out.below (by ((repeat (first | with_reducible refine Below.setCell ?_ (by first | omega | (simp; done) | (simp; omega)) _ | with_reducible refine Below.drew ?_ | with_reducible refine Below.alloc ?_ (by first | omega | (simp; done) | (simp; omega)) _)); exact Below.refl _ _)))).mono ?_
  rintro e w1 ⟨rfl, hb1⟩
  have HB1 := Lib.hid hb1
  have sz1 := hb1.size
  (try simp at sz1)
  have B1x := Lib.hid (show w1.heap[w.heap.size]? = some (.cells #[.int .i64 v.kind, .bool v.tr, .string v.text, .slice A v.list.length ca, .slice B v.names.length cb] 27 (0, 0)) from (hb1.block (w.heap.size) (by first | omega | (simp; done) | (simp; omega))).trans (by (try dsimp only [World.drew]); (repeat (first | rw [alloc_before (by first | omega | (simp; done) | (simp; omega))] | rw [Below.heap_setCell _ _ _ _ (by first | (simp only; omega) | (simp; omega))])); exact alloc_at (by simp)))
  have c1x := fun o => cell_of_row w1 (w.heap.size) o _ 27 (0, 0) B1x.out
  have f1x : ∀ o, w1.frozen? ⟨w.heap.size, o, none⟩ = false := fun o => by simp [World.frozen?, B1x.out]
  have l1x : w.heap.size < w1.heap.size := by first | omega | (simp; omega)
  clear hb1
  go_wp2_with fail
  refine (HLA.out _ (by ((repeat (first | with_reducible refine Below.setCell ?_ (by first | omega | (simp; done) | (simp; omega)) _ | with_reducible refine Below.drew ?_ | with_reducible refine Below.alloc ?_ (by first | omega | (simp; done) | (simp; omega)) _)); refine Below.trans ?_ (HB1.out.mono (by first | omega | (simp; done) | (simp; omega))); (repeat (first | with_reducible refine Below.setCell ?_ (by first | omega | (simp; done) | (simp; omega)) _ | with_reducible refine Below.drew ?_ | with_reducible refine Below.alloc ?_ (by first | omega | (simp; done) | (simp; omega)) _)); exact Below.refl _ _))).mono ?_
  rintro e w2 ⟨bl, rfl, hb2⟩
  cases bl with
  | true =>
    have HB2 := Lib.hid hb2
    clear hb2
    go_wp2
    go_ret
    exact ⟨rfl, (by ((repeat (first | with_reducible refine Below.setCell ?_ (by first | omega | (simp; done) | (simp; omega)) _ | with_reducible refine Below.drew ?_ | with_reducible refine Below.alloc ?_ (by first | omega | (simp; done) | (simp; omega)) _)); refine Below.trans ?_ (HB2.out.mono (by first | omega | (simp; done) | (simp; omega))); (repeat (first | with_reducible refine Below.setCell ?_ (by first | omega | (simp; done) | (simp; omega)) _ | with_reducible refine Below.drew ?_ | with_reducible refine Below.alloc ?_ (by first | omega | (simp; done) | (simp; omega)) _)); refine Below.trans ?_ (HB1.out.mono (by first | omega | (simp; done) | (simp; omega))); (repeat (first | with_reducible refine Below.setCell ?_ (by first | omega | (simp; done) | (simp; omega)) _ | with_reducible refine Below.drew ?_ | with_reducible refine Below.alloc ?_ (by first | omega | (simp; done) | (simp; omega)) _)); exact Below.refl _ _))⟩
  | false =>
    have HB2 := Lib.hid hb2
    have sz2 := hb2.size
    (try simp at sz2)
    have B2x := Lib.hid (show w2.heap[w.heap.size]? = some (.cells #[.int .i64 v.kind, .bool v.tr, .string v.text, .slice A v.list.length ca, .slice B v.names.length cb] 27 (0, 0)) from (hb2.block (w.heap.size) (by first | omega | (simp; done) | (simp; omega))).trans (by (try dsimp only [World.drew]); (repeat (first | rw [alloc_before (by first | omega | (simp; done) | (simp; omega))] | rw [Below.heap_setCell _ _ _ _ (by first | (simp only; omega) | (simp; omega))])); exact B1x.out))
    have c2x := fun o => cell_of_row w2 (w.heap.size) o _ 27 (0, 0) B2x.out
    have f2x : ∀ o, w2.frozen? ⟨w.heap.size, o, none⟩ = false := fun o => by simp [World.frozen?, B2x.out]
    have l2x : w.heap.size < w2.heap.size := by first | omega | (simp; omega)
    clear hb2 c1x f1x
    go_wp2_with fail
    refine (HDO.out _ (by ((repeat (first | with_reducible refine Below.setCell ?_ (by first | omega | (simp; done) | (simp; omega)) _ | with_reducible refine Below.drew ?_ | with_reducible refine Below.alloc ?_ (by first | omega | (simp; done) | (simp; omega)) _)); refine Below.trans ?_ (HB2.out.mono (by first | omega | (simp; done) | (simp; omega))); (repeat (first | with_reducible refine Below.setCell ?_ (by first | omega | (simp; done) | (simp; omega)) _ | with_reducible refine Below.drew ?_ | with_reducible refine Below.alloc ?_ (by first | omega | (simp; done) | (simp; omega)) _)); refine Below.trans ?_ (HB1.out.mono (by first | omega | (simp; done) | (simp; omega))); (repeat (first | with_reducible refine Below.setCell ?_ (by first | omega | (simp; done) | (simp; omega)) _ | with_reducible refine Below.drew ?_ | with_reducible refine Below.alloc ?_ (by first | omega | (simp; done) | (simp; omega)) _)); exact Below.refl _ _))).mono ?_
    rintro e w3 ⟨cs3, rfl, hrep3, hb3⟩
    have HU := Lib.hid hrep3
    have HTD3 := Lib.hid (fun W => HTD.out W cs3)
    have HPD3 := Lib.hid (fun W => HPD.out W cs3)
    obtain ⟨A3, ca3, B3, cb3, rfl, -⟩ := hrep3.open
    simp only [docCells, List.cons_append, List.nil_append] at HTD3 HPD3
    clear hrep3 HTD HPD
    have HB3 := Lib.hid hb3
    have sz3 := hb3.size
    (try simp at sz3)
    have B3x := Lib.hid (show w3.heap[w.heap.size]? = some (.cells #[.int .i64 v.kind, .bool v.tr, .string v.text, .slice A v.list.length ca, .slice B v.names.length cb] 27 (0, 0)) from (hb3.block (w.heap.size) (by first | omega | (simp; done) | (simp; omega))).trans (by (try dsimp only [World.drew]); (repeat (first | rw [alloc_before (by first | omega | (simp; done) | (simp; omega))] | rw [Below.heap_setCell _ _ _ _ (by first | (simp only; omega) | (simp; omega))])); exact B2x.out))
    have c3x := fun o => cell_of_row w3 (w.heap.size) o _ 27 (0, 0) B3x.out
    have f3x : ∀ o, w3.frozen? ⟨w.heap.size, o, none⟩ = false := fun o => by simp [World.frozen?, B3x.out]
    have l3x : w.heap.size < w3.heap.size := by first | omega | (simp; omega)
    clear hb3 c2x f2x
    go_wp2_with fail
    refine (HPA.out _ (by ((repeat (first | with_reducible refine Below.setCell ?_ (by first | omega | (simp; done) | (simp; omega)) _ | with_reducible refine Below.drew ?_ | with_reducible refine Below.alloc ?_ (by first | omega | (simp; done) | (simp; omega)) _)); refine Below.trans ?_ (HB3.out.mono (by first | omega | (simp; done) | (simp; omega))); (repeat (first | with_reducible refine Below.setCell ?_ (by first | omega | (simp; done) | (simp; omega)) _ | with_reducible refine Below.drew ?_ | with_reducible refine Below.alloc ?_ (by first | omega | (simp; done) | (simp; omega)) _)); refine Below.trans ?_ (HB2.out.mono (by first | omega | (simp; done) | (simp; omega))); (repeat (first | with_reducible refine Below.setCell ?_ (by first | omega | (simp; done) | (simp; omega)) _ | with_reducible refine Below.drew ?_ | with_reducible refine Below.alloc ?_ (by first | omega | (simp; done) | (simp; omega)) _)); refine Below.trans ?_ (HB1.out.mono (by first | omega | (simp; done) | (simp; omega))); (repeat (first | with_reducible refine Below.setCell ?_ (by first | omega | (simp; done) | (simp; omega)) _ | with_reducible refine Below.drew ?_ | with_reducible refine Below.alloc ?_ (by first | omega | (simp; done) | (simp; omega)) _)); exact Below.refl _ _))).mono ?_
    rintro e w4 ⟨ev, rfl, hev, hb4⟩
    have HE4 := Lib.hid (hev.mono (lo' := w3.heap.size) (by first | omega | (simp; done) | (simp; omega)))
    clear hev
    have HB4 := Lib.hid hb4
    have sz4 := hb4.size
    (try simp at sz4)
    have B4x := Lib.hid (show w4.heap[w.heap.size]? = some (.cells #[.int .i64 v.kind, .bool v.tr, .string v.text, .slice A v.list.length ca, .slice B v.names.length cb] 27 (0, 0)) from (hb4.block (w.heap.size) (by first | omega | (simp; done) | (simp; omega))).trans (by (try dsimp only [World.drew]); (repeat (first | rw [alloc_before (by first | omega | (simp; done) | (simp; omega))] | rw [Below.heap_setCell _ _ _ _ (by first | (simp only; omega) | (simp; omega))])); exact B3x.out))
    have B4t3 := Lib.hid (show w4.heap[w3.heap.size]? = some (.cells #[.int .i64 v.kind, .bool v.tr, .string v.text, .slice A3 v.list.length ca3, .slice B3 v.names.length cb3, .string ⟨#[]⟩, .int .i64 0, .string ⟨#[]⟩] 46 (0, 0)) from (hb4.block (w3.heap.size) (by first | omega | (simp; done) | (simp; omega))).trans (by (try dsimp only [World.drew]); (repeat (first | rw [alloc_before (by first | omega | (simp; done) | (simp; omega))] | rw [Below.heap_setCell _ _ _ _ (by first | (simp only; omega) | (simp; omega))])); exact alloc_at (by simp)))
    have c4x := fun o => cell_of_row w4 (w.heap.size) o _ 27 (0, 0) B4x.out
    have f4x : ∀ o, w4.frozen? ⟨w.heap.size, o, none⟩ = false := fun o => by simp [World.frozen?, B4x.out]
    have l4x : w.heap.size < w4.heap.size := by first | omega | (simp; omega)
    have c4t3 := fun o => cell_of_row w4 (w3.heap.size) o _ 46 (0, 0) B4t3.out
    have f4t3 : ∀ o, w4.frozen? ⟨w3.heap.size, o, none⟩ = false := fun o => by simp [World.frozen?, B4t3.out]
    have l4t3 : w3.heap.size < w4.heap.size := by first | omega | (simp; omega)
    have nxt3 : ¬ w.heap.size = w3.heap.size := by omega
    have nt3x : ¬ w3.heap.size = w.heap.size := by omega
    clear hb4 c3x f3x
    go_wp2_with fail
    refine (HTD3.out _ _ (HU.out.agree (S' := fun _ => True) fun b hb hlt => ⟨Below.block (B := w3.heap.size) (by (repeat (first | with_reducible refine Below.setCell ?_ (by first | omega | (simp; done) | (simp; omega)) _ | with_reducible refine Below.drew ?_ | with_reducible refine Below.alloc ?_ (by first | omega | (simp; done) | (simp; omega)) _)); refine Below.trans ?_ (HB4.out.mono (by first | omega | (simp; done) | (simp; omega))); (repeat (first | with_reducible refine Below.setCell ?_ (by first | omega | (simp; done) | (simp; omega)) _ | with_reducible refine Below.drew ?_ | with_reducible refine Below.alloc ?_ (by first | omega | (simp; done) | (simp; omega)) _)); exact Below.refl _ _) b hlt, trivial⟩)).mono ?_
    rintro e w5 ⟨rfl, hb5⟩
    have HE5 := Lib.hid (HE4.out.step (w' := w5) fun g _ hg => (hb5.block g (by first | omega | (simp; omega))).trans (alloc_before hg))
    have HB5 := Lib.hid hb5
    have sz5 := hb5.size
    (try simp at sz5)
    have B5x := Lib.hid (show w5.heap[w.heap.size]? = some (.cells #[.int .i64 v.kind, .bool v.tr, .string v.text, .slice A v.list.length ca, .slice B v.names.length cb] 27 (0, 0)) from (hb5.block (w.heap.size) (by first | omega | (simp; done) | (simp; omega))).trans (by (try dsimp only [World.drew]); (repeat (first | rw [alloc_before (by first | omega | (simp; done) | (simp; omega))] | rw [Below.heap_setCell _ _ _ _ (by first | (simp only; omega) | (simp; omega))])); exact B4x.out))
    have B5t3 := Lib.hid (show w5.heap[w3.heap.size]? = some (.cells #[.int .i64 v.kind, .bool v.tr, .string v.text, .slice A3 v.list.length ca3, .slice B3 v.names.length cb3, .string ⟨#[]⟩, .int .i64 0, .string ⟨#[]⟩] 46 (0, 0)) from (hb5.block (w3.heap.size) (by first | omega | (simp; done) | (simp; omega))).trans (by (try dsimp only [World.drew]); (repeat (first | rw [alloc_before (by first | omega | (simp; done) | (simp; omega))] | rw [Below.heap_setCell _ _ _ _ (by first | (simp only; omega) | (simp; omega))])); exact B4t3.out))
    have B5t4 := Lib.hid (show w5.heap[w4.heap.size]? = some (.cells #[.string d1, .string d2, .int .i64 d3, .string d4, .string d5, .string d6] 62 (0, 0)) from (hb5.block (w4.heap.size) (by first | omega | (simp; done) | (simp; omega))).trans (by (try dsimp only [World.drew]); (repeat (first | rw [alloc_before (by first | omega | (simp; done) | (simp; omega))] | rw [Below.heap_setCell _ _ _ _ (by first | (simp only; omega) | (simp; omega))])); exact alloc_at (by simp)))
    have c5x := fun o => cell_of_row w5 (w.heap.size) o _ 27 (0, 0) B5x.out
    have f5x : ∀ o, w5.frozen? ⟨w.heap.size, o, none⟩ = false := fun o => by simp [World.frozen?, B5x.out]
    have l5x : w.heap.size < w5.heap.size := by first | omega | (simp; omega)
    have c5t3 := fun o => cell_of_row w5 (w3.heap.size) o _ 46 (0, 0) B5t3.out
    have f5t3 : ∀ o, w5.frozen? ⟨w3.heap.size, o, none⟩ = false := fun o => by simp [World.frozen?, B5t3.out]
    have l5t3 : w3.heap.size < w5.heap.size := by first | omega | (simp; omega)
    have c5t4 := fun o => cell_of_row w5 (w4.heap.size) o _ 62 (0, 0) B5t4.out
    have f5t4 : ∀ o, w5.frozen? ⟨w4.heap.size, o, none⟩ = false := fun o => by simp [World.frozen?, B5t4.out]
    have l5t4 : w4.heap.size < w5.heap.size := by first | omega | (simp; omega)
    have nxt4 : ¬ w.heap.size = w4.heap.size := by omega
    have nt4x : ¬ w4.heap.size = w.heap.size := by omega
    have nt3t4 : ¬ w3.heap.size = w4.heap.size := by omega
    have nt4t3 : ¬ w4.heap.size = w3.heap.size := by omega
    clear hb5 c4x f4x c4t3 f4t3
    go_upto_region 8 with (fail)
    generalize hW6 : ((w5).alloc (.cells #[.string d1, .string d2, .int .i64 d3, .string d4, .string d5, .string d6] 67)).alloc (.cells #[.int .i64 c1, .string p1] 69) = W6
    have HB6 := Lib.hid (show Below w5.heap.size w5 W6 by rw [← hW6]; (repeat (first | with_reducible refine Below.setCell ?_ (by first | omega | (simp; done) | (simp; omega)) _ | with_reducible refine Below.drew ?_ | with_reducible refine Below.alloc ?_ (by first | omega | (simp; done) | (simp; omega)) _)); exact Below.refl _ _)
    have sz6 : W6.heap.size = w5.heap.size + 2 := by rw [← hW6]; simp
    have B6x := Lib.hid (show W6.heap[w.heap.size]? = some (.cells #[.int .i64 v.kind, .bool v.tr, .string v.text, .slice A v.list.length ca, .slice B v.names.length cb] 27 (0, 0)) from by rw [← hW6]; (try dsimp only [World.drew]); (repeat (first | rw [alloc_before (by first | omega | (simp; done) | (simp; omega))] | rw [Below.heap_setCell _ _ _ _ (by first | (simp only; omega) | (simp; omega))])); exact B5x.out)
    have B6t3 := Lib.hid (show W6.heap[w3.heap.size]? = some (.cells #[.int .i64 v.kind, .bool v.tr, .string v.text, .slice A3 v.list.length ca3, .slice B3 v.names.length cb3, .string ⟨#[]⟩, .int .i64 0, .string ⟨#[]⟩] 46 (0, 0)) from by rw [← hW6]; (try dsimp only [World.drew]); (repeat (first | rw [alloc_before (by first | omega | (simp; done) | (simp; omega))] | rw [Below.heap_setCell _ _ _ _ (by first | (simp only; omega) | (simp; omega))])); exact B5t3.out)
    have B6t4 := Lib.hid (show W6.heap[w4.heap.size]? = some (.cells #[.string d1, .string d2, .int .i64 d3, .string d4, .string d5, .string d6] 62 (0, 0)) from by rw [← hW6]; (try dsimp only [World.drew]); (repeat (first | rw [alloc_before (by first | omega | (simp; done) | (simp; omega))] | rw [Below.heap_setCell _ _ _ _ (by first | (simp only; omega) | (simp; omega))])); exact B5t4.out)
    have B6t6 := Lib.hid (show W6.heap[w5.heap.size]? = some (.cells #[.string d1, .string d2, .int .i64 d3, .string d4, .string d5, .string d6] 67 (0, 0)) from by rw [← hW6]; (try dsimp only [World.drew]); (repeat (first | rw [alloc_before (by first | omega | (simp; done) | (simp; omega))] | rw [Below.heap_setCell _ _ _ _ (by first | (simp only; omega) | (simp; omega))])); exact alloc_at (by simp))
    have B6t7 := Lib.hid (show W6.heap[w5.heap.size + 1]? = some (.cells #[.int .i64 c1, .string p1] 69 (0, 0)) from by rw [← hW6]; (try dsimp only [World.drew]); (repeat (first | rw [alloc_before (by first | omega | (simp; done) | (simp; omega))] | rw [Below.heap_setCell _ _ _ _ (by first | (simp only; omega) | (simp; omega))])); exact alloc_at (by simp))
    have c6x := fun o => cell_of_row W6 (w.heap.size) o _ 27 (0, 0) B6x.out
    have f6x : ∀ o, W6.frozen? ⟨w.heap.size, o, none⟩ = false := fun o => by simp [World.frozen?, B6x.out]
    have l6x : w.heap.size < W6.heap.size := by first | omega | (simp; omega)
    have c6t3 := fun o => cell_of_row W6 (w3.heap.size) o _ 46 (0, 0) B6t3.out
    have f6t3 : ∀ o, W6.frozen? ⟨w3.heap.size, o, none⟩ = false := fun o => by simp [World.frozen?, B6t3.out]
    have l6t3 : w3.heap.size < W6.heap.size := by first | omega | (simp; omega)
    have c6t4 := fun o => cell_of_row W6 (w4.heap.size) o _ 62 (0, 0) B6t4.out
    have f6t4 : ∀ o, W6.frozen? ⟨w4.heap.size, o, none⟩ = false := fun o => by simp [World.frozen?, B6t4.out]
    have l6t4 : w4.heap.size < W6.heap.size := by first | omega | (simp; omega)
    have c6t6 := fun o => cell_of_row W6 (w5.heap.size) o _ 67 (0, 0) B6t6.out
    have f6t6 : ∀ o, W6.frozen? ⟨w5.heap.size, o, none⟩ = false := fun o => by simp [World.frozen?, B6t6.out]
    have l6t6 : w5.heap.size < W6.heap.size := by first | omega | (simp; omega)
    have c6t7 := fun o => cell_of_row W6 (w5.heap.size + 1) o _ 69 (0, 0) B6t7.out
    have f6t7 : ∀ o, W6.frozen? ⟨w5.heap.size + 1, o, none⟩ = false := fun o => by simp [World.frozen?, B6t7.out]
    have l6t7 : w5.heap.size + 1 < W6.heap.size := by first | omega | (simp; omega)
    have nxt6 : ¬ w.heap.size = w5.heap.size := by omega
    have nt6x : ¬ w5.heap.size = w.heap.size := by omega
    have nxt7 : ¬ w.heap.size = w5.heap.size + 1 := by omega
    have nt7x : ¬ w5.heap.size + 1 = w.heap.size := by omega
    have nt3t6 : ¬ w3.heap.size = w5.heap.size := by omega
    have nt6t3 : ¬ w5.heap.size = w3.heap.size := by omega
    have nt3t7 : ¬ w3.heap.size = w5.heap.size + 1 := by omega
    have nt7t3 : ¬ w5.heap.size + 1 = w3.heap.size := by omega
    have nt4t6 : ¬ w4.heap.size = w5.heap.size := by omega
    have nt6t4 : ¬ w5.heap.size = w4.heap.size := by omega
    have nt4t7 : ¬ w4.heap.size = w5.heap.size + 1 := by omega
    have nt7t4 : ¬ w5.heap.size + 1 = w4.heap.size := by omega
    have nt6t7 : ¬ w5.heap.size = w5.heap.size + 1 := by omega
    have nt7t6 : ¬ w5.heap.size + 1 = w5.heap.size := by omega
    have HE6 := Lib.hid (HE5.out.step (w' := W6) fun g _ hg => by rw [← hW6]; exact (alloc_before (by first | omega | (simp; omega))).trans (alloc_before hg))
    clear hW6 c5x f5x c5t3 f5t3 c5t4 f5t4
    go_region_held3 (fun w' => w'.cell? ⟨w4.heap.size, 0, none⟩ = some (.string d1) ∧ w'.cell? ⟨w4.heap.size, 1, none⟩ = some (.string d2) ∧ w'.cell? ⟨w4.heap.size, 2, none⟩ = some (.int .i64 d3) ∧ w'.cell? ⟨w4.heap.size, 3, none⟩ = some (.string d4) ∧ w'.cell? ⟨w4.heap.size, 4, none⟩ = some (.string d5) ∧ w'.cell? ⟨w4.heap.size, 5, none⟩ = some (.string d6) ∧ w'.cell? ⟨w5.heap.size, 0, none⟩ = some (.string d1) ∧ w'.cell? ⟨w5.heap.size, 1, none⟩ = some (.string d2) ∧ w'.cell? ⟨w5.heap.size, 2, none⟩ = some (.int .i64 d3) ∧ w'.cell? ⟨w5.heap.size, 3, none⟩ = some (.string d4) ∧ w'.cell? ⟨w5.heap.size, 4, none⟩ = some (.string d5) ∧ w'.cell? ⟨w5.heap.size, 5, none⟩ = some (.string d6) ∧ w'.cell? ⟨w5.heap.size + 1, 0, none⟩ = some (.int .i64 c1) ∧ w'.cell? ⟨w5.heap.size + 1, 1, none⟩ = some (.string p1))
      ((first | exact cells662 B6t4.out B6t6.out B6t7.out | exact cells662 ((kwA _ l6t4).trans B6t4.out) ((kwA _ l6t6).trans B6t6.out) ((kwA _ l6t7).trans B6t7.out) | exact cells662 ((kwB _ l6t4).trans B6t4.out) ((kwB _ l6t6).trans B6t6.out) ((kwB _ l6t7).trans B6t7.out)))
      ((first | (go_at_call 26; refine (doc_desc d1 d2 d3 d4 d5 d6 _).mono ?_; rintro e wA ⟨rfl, bwA⟩; have zwA : W6.heap.size ≤ wA.heap.size := bwA.size; have b0wA : Below W6.heap.size W6 wA := ⟨bwA.os, bwA.tape, bwA.output, zwA, fun b hb => bwA.block b hb⟩; have kwA : ∀ b, b < W6.heap.size → wA.heap[b]? = W6.heap[b]? := fun b hb => bwA.block b hb; clear bwA) | (go_at_call 27; refine (found_any w3.heap.size _ ev c1 p1 (by exact HE6.out.step fun g _ hg => kwA g hg)).mono ?_; rintro e wB ⟨rfl, bwB⟩; have zwB : W6.heap.size ≤ wB.heap.size := Nat.le_trans zwA bwB.size; have b0wB : Below W6.heap.size W6 wB := ⟨bwB.os.trans b0wA.os, bwB.tape.trans b0wA.tape, bwB.output.trans b0wA.output, zwB, fun b hb => (bwB.block b (Nat.lt_of_lt_of_le hb zwA)).trans (kwA b hb)⟩; have kwB : ∀ b, b < W6.heap.size → wB.heap[b]? = W6.heap[b]? := fun b hb => b0wB.block b hb; clear bwB)))
    have hb7 := b0wB
    have HB7 := Lib.hid hb7
    have sz7 := hb7.size
    (try simp at sz7)
    have B7x := Lib.hid (show wB.heap[w.heap.size]? = some (.cells #[.int .i64 v.kind, .bool v.tr, .string v.text, .slice A v.list.length ca, .slice B v.names.length cb] 27 (0, 0)) from (hb7.block (w.heap.size) (by first | omega | (simp; done) | (simp; omega))).trans (by (try dsimp only [World.drew]); (repeat (first | rw [alloc_before (by first | omega | (simp; done) | (simp; omega))] | rw [Below.heap_setCell _ _ _ _ (by first | (simp only; omega) | (simp; omega))])); exact B6x.out))
    have B7t3 := Lib.hid (show wB.heap[w3.heap.size]? = some (.cells #[.int .i64 v.kind, .bool v.tr, .string v.text, .slice A3 v.list.length ca3, .slice B3 v.names.length cb3, .string ⟨#[]⟩, .int .i64 0, .string ⟨#[]⟩] 46 (0, 0)) from (hb7.block (w3.heap.size) (by first | omega | (simp; done) | (simp; omega))).trans (by (try dsimp only [World.drew]); (repeat (first | rw [alloc_before (by first | omega | (simp; done) | (simp; omega))] | rw [Below.heap_setCell _ _ _ _ (by first | (simp only; omega) | (simp; omega))])); exact B6t3.out))
    have B7t4 := Lib.hid (show wB.heap[w4.heap.size]? = some (.cells #[.string d1, .string d2, .int .i64 d3, .string d4, .string d5, .string d6] 62 (0, 0)) from (hb7.block (w4.heap.size) (by first | omega | (simp; done) | (simp; omega))).trans (by (try dsimp only [World.drew]); (repeat (first | rw [alloc_before (by first | omega | (simp; done) | (simp; omega))] | rw [Below.heap_setCell _ _ _ _ (by first | (simp only; omega) | (simp; omega))])); exact B6t4.out))
    have B7t6 := Lib.hid (show wB.heap[w5.heap.size]? = some (.cells #[.string d1, .string d2, .int .i64 d3, .string d4, .string d5, .string d6] 67 (0, 0)) from (hb7.block (w5.heap.size) (by first | omega | (simp; done) | (simp; omega))).trans (by (try dsimp only [World.drew]); (repeat (first | rw [alloc_before (by first | omega | (simp; done) | (simp; omega))] | rw [Below.heap_setCell _ _ _ _ (by first | (simp only; omega) | (simp; omega))])); exact B6t6.out))
    have B7t7 := Lib.hid (show wB.heap[w5.heap.size + 1]? = some (.cells #[.int .i64 c1, .string p1] 69 (0, 0)) from (hb7.block (w5.heap.size + 1) (by first | omega | (simp; done) | (simp; omega))).trans (by (try dsimp only [World.drew]); (repeat (first | rw [alloc_before (by first | omega | (simp; done) | (simp; omega))] | rw [Below.heap_setCell _ _ _ _ (by first | (simp only; omega) | (simp; omega))])); exact B6t7.out))
    have c7x := fun o => cell_of_row wB (w.heap.size) o _ 27 (0, 0) B7x.out
    have f7x : ∀ o, wB.frozen? ⟨w.heap.size, o, none⟩ = false := fun o => by simp [World.frozen?, B7x.out]
    have l7x : w.heap.size < wB.heap.size := by first | omega | (simp; omega)
    have c7t3 := fun o => cell_of_row wB (w3.heap.size) o _ 46 (0, 0) B7t3.out
    have f7t3 : ∀ o, wB.frozen? ⟨w3.heap.size, o, none⟩ = false := fun o => by simp [World.frozen?, B7t3.out]
    have l7t3 : w3.heap.size < wB.heap.size := by first | omega | (simp; omega)
    have c7t4 := fun o => cell_of_row wB (w4.heap.size) o _ 62 (0, 0) B7t4.out
    have f7t4 : ∀ o, wB.frozen? ⟨w4.heap.size, o, none⟩ = false := fun o => by simp [World.frozen?, B7t4.out]
    have l7t4 : w4.heap.size < wB.heap.size := by first | omega | (simp; omega)
    have c7t6 := fun o => cell_of_row wB (w5.heap.size) o _ 67 (0, 0) B7t6.out
    have f7t6 : ∀ o, wB.frozen? ⟨w5.heap.size, o, none⟩ = false := fun o => by simp [World.frozen?, B7t6.out]
    have l7t6 : w5.heap.size < wB.heap.size := by first | omega | (simp; omega)
    have c7t7 := fun o => cell_of_row wB (w5.heap.size + 1) o _ 69 (0, 0) B7t7.out
    have f7t7 : ∀ o, wB.frozen? ⟨w5.heap.size + 1, o, none⟩ = false := fun o => by simp [World.frozen?, B7t7.out]
    have l7t7 : w5.heap.size + 1 < wB.heap.size := by first | omega | (simp; omega)
    clear hb7 c6x f6x c6t3 f6t3 c6t4 f6t4 c6t6 f6t6 c6t7 f6t7
    go_wp2_with fail
    refine (HT28.out _ (by ((repeat (first | with_reducible refine Below.setCell ?_ (by first | omega | (simp; done) | (simp; omega)) _ | with_reducible refine Below.drew ?_ | with_reducible refine Below.alloc ?_ (by first | omega | (simp; done) | (simp; omega)) _)); refine Below.trans ?_ (HB7.out.mono (by first | omega | (simp; done) | (simp; omega))); (repeat (first | with_reducible refine Below.setCell ?_ (by first | omega | (simp; done) | (simp; omega)) _ | with_reducible refine Below.drew ?_ | with_reducible refine Below.alloc ?_ (by first | omega | (simp; done) | (simp; omega)) _)); refine Below.trans ?_ (HB6.out.mono (by first | omega | (simp; done) | (simp; omega))); (repeat (first | with_reducible refine Below.setCell ?_ (by first | omega | (simp; done) | (simp; omega)) _ | with_reducible refine Below.drew ?_ | with_reducible refine Below.alloc ?_ (by first | omega | (simp; done) | (simp; omega)) _)); refine Below.trans ?_ (HB5.out.mono (by first | omega | (simp; done) | (simp; omega))); (repeat (first | with_reducible refine Below.setCell ?_ (by first | omega | (simp; done) | (simp; omega)) _ | with_reducible refine Below.drew ?_ | with_reducible refine Below.alloc ?_ (by first | omega | (simp; done) | (simp; omega)) _)); refine Below.trans ?_ (HB4.out.mono (by first | omega | (simp; done) | (simp; omega))); (repeat (first | with_reducible refine Below.setCell ?_ (by first | omega | (simp; done) | (simp; omega)) _ | with_reducible refine Below.drew ?_ | with_reducible refine Below.alloc ?_ (by first | omega | (simp; done) | (simp; omega)) _)); refine Below.trans ?_ (HB3.out.mono (by first | omega | (simp; done) | (simp; omega))); (repeat (first | with_reducible refine Below.setCell ?_ (by first | omega | (simp; done) | (simp; omega)) _ | with_reducible refine Below.drew ?_ | with_reducible refine Below.alloc ?_ (by first | omega | (simp; done) | (simp; omega)) _)); refine Below.trans ?_ (HB2.out.mono (by first | omega | (simp; done) | (simp; omega))); (repeat (first | with_reducible refine Below.setCell ?_ (by first | omega | (simp; done) | (simp; omega)) _ | with_reducible refine Below.drew ?_ | with_reducible refine Below.alloc ?_ (by first | omega | (simp; done) | (simp; omega)) _)); refine Below.trans ?_ (HB1.out.mono (by first | omega | (simp; done) | (simp; omega))); (repeat (first | with_reducible refine Below.setCell ?_ (by first | omega | (simp; done) | (simp; omega)) _ | with_reducible refine Below.drew ?_ | with_reducible refine Below.alloc ?_ (by first | omega | (simp; done) | (simp; omega)) _)); exact Below.refl _ _)) (w.heap.size) (wB.heap.size) (by (try dsimp only [World.drew]); (repeat (first | rw [alloc_before (by first | omega | (simp; done) | (simp; omega))] | rw [Below.heap_setCell _ _ _ _ (by first | (simp only; omega) | (simp; omega))])); exact B7x.out) (by (try dsimp only [World.drew]); (repeat (first | rw [alloc_before (by first | omega | (simp; done) | (simp; omega))] | rw [Below.heap_setCell _ _ _ _ (by first | (simp only; omega) | (simp; omega))])); exact alloc_at (by simp))).mono ?_
    rintro e w8 ⟨ev8, rfl, hev8, hb8, hal8, hd8⟩
    have HE8 := Lib.hid (hev8.mono (lo' := wB.heap.size) (by first | omega | (simp; done) | (simp; omega)))
    clear hev8
    have HB8 := Lib.hid hb8
    have sz8 := hal8.size
    (try simp at sz8)
    have B8x := Lib.hid (show w8.heap[w.heap.size]? = some (.cells #[.int .i64 v.kind, .bool v.tr, .string v.text, .slice A v.list.length ca, .slice B v.names.length cb] 27 (0, 0)) from (hal8.block (w.heap.size) (by first | omega | (simp; omega)) (by first | omega | (simp; done) | (simp; omega))).trans (by (try dsimp only [World.drew]); (repeat (first | rw [alloc_before (by first | omega | (simp; done) | (simp; omega))] | rw [Below.heap_setCell _ _ _ _ (by first | (simp only; omega) | (simp; omega))])); exact B7x.out))
    have B8t3 := Lib.hid (show w8.heap[w3.heap.size]? = some (.cells #[.int .i64 v.kind, .bool v.tr, .string v.text, .slice A3 v.list.length ca3, .slice B3 v.names.length cb3, .string ⟨#[]⟩, .int .i64 0, .string ⟨#[]⟩] 46 (0, 0)) from (hal8.block (w3.heap.size) (by first | omega | (simp; omega)) (by first | omega | (simp; done) | (simp; omega))).trans (by (try dsimp only [World.drew]); (repeat (first | rw [alloc_before (by first | omega | (simp; done) | (simp; omega))] | rw [Below.heap_setCell _ _ _ _ (by first | (simp only; omega) | (simp; omega))])); exact B7t3.out))
    have B8t4 := Lib.hid (show w8.heap[w4.heap.size]? = some (.cells #[.string d1, .string d2, .int .i64 d3, .string d4, .string d5, .string d6] 62 (0, 0)) from (hal8.block (w4.heap.size) (by first | omega | (simp; omega)) (by first | omega | (simp; done) | (simp; omega))).trans (by (try dsimp only [World.drew]); (repeat (first | rw [alloc_before (by first | omega | (simp; done) | (simp; omega))] | rw [Below.heap_setCell _ _ _ _ (by first | (simp only; omega) | (simp; omega))])); exact B7t4.out))
    have B8t6 := Lib.hid (show w8.heap[w5.heap.size]? = some (.cells #[.string d1, .string d2, .int .i64 d3, .string d4, .string d5, .string d6] 67 (0, 0)) from (hal8.block (w5.heap.size) (by first | omega | (simp; omega)) (by first | omega | (simp; done) | (simp; omega))).trans (by (try dsimp only [World.drew]); (repeat (first | rw [alloc_before (by first | omega | (simp; done) | (simp; omega))] | rw [Below.heap_setCell _ _ _ _ (by first | (simp only; omega) | (simp; omega))])); exact B7t6.out))
    have B8t7 := Lib.hid (show w8.heap[w5.heap.size + 1]? = some (.cells #[.int .i64 c1, .string p1] 69 (0, 0)) from (hal8.block (w5.heap.size + 1) (by first | omega | (simp; omega)) (by first | omega | (simp; done) | (simp; omega))).trans (by (try dsimp only [World.drew]); (repeat (first | rw [alloc_before (by first | omega | (simp; done) | (simp; omega))] | rw [Below.heap_setCell _ _ _ _ (by first | (simp only; omega) | (simp; omega))])); exact B7t7.out))
    have B8t8 := Lib.hid (show w8.heap[wB.heap.size]? = some (.cells #[.string d1, .string d2, .int .i64 d3, .string d4, .string d5, .string d6] 62 (0, 0)) from hd8)
    have c8x := fun o => cell_of_row w8 (w.heap.size) o _ 27 (0, 0) B8x.out
    have f8x : ∀ o, w8.frozen? ⟨w.heap.size, o, none⟩ = false := fun o => by simp [World.frozen?, B8x.out]
    have l8x : w.heap.size < w8.heap.size := by first | omega | (simp; omega)
    have c8t3 := fun o => cell_of_row w8 (w3.heap.size) o _ 46 (0, 0) B8t3.out
    have f8t3 : ∀ o, w8.frozen? ⟨w3.heap.size, o, none⟩ = false := fun o => by simp [World.frozen?, B8t3.out]
    have l8t3 : w3.heap.size < w8.heap.size := by first | omega | (simp; omega)
    have c8t4 := fun o => cell_of_row w8 (w4.heap.size) o _ 62 (0, 0) B8t4.out
    have f8t4 : ∀ o, w8.frozen? ⟨w4.heap.size, o, none⟩ = false := fun o => by simp [World.frozen?, B8t4.out]
    have l8t4 : w4.heap.size < w8.heap.size := by first | omega | (simp; omega)
    have c8t6 := fun o => cell_of_row w8 (w5.heap.size) o _ 67 (0, 0) B8t6.out
    have f8t6 : ∀ o, w8.frozen? ⟨w5.heap.size, o, none⟩ = false := fun o => by simp [World.frozen?, B8t6.out]
    have l8t6 : w5.heap.size < w8.heap.size := by first | omega | (simp; omega)
    have c8t7 := fun o => cell_of_row w8 (w5.heap.size + 1) o _ 69 (0, 0) B8t7.out
    have f8t7 : ∀ o, w8.frozen? ⟨w5.heap.size + 1, o, none⟩ = false := fun o => by simp [World.frozen?, B8t7.out]
    have l8t7 : w5.heap.size + 1 < w8.heap.size := by first | omega | (simp; omega)
    have c8t8 := fun o => cell_of_row w8 (wB.heap.size) o _ 62 (0, 0) B8t8.out
    have f8t8 : ∀ o, w8.frozen? ⟨wB.heap.size, o, none⟩ = false := fun o => by simp [World.frozen?, B8t8.out]
    have l8t8 : wB.heap.size < w8.heap.size := by first | omega | (simp; omega)
    have nxt8 : ¬ w.heap.size = wB.heap.size := by omega
    have nt8x : ¬ wB.heap.size = w.heap.size := by omega
    have nt3t8 : ¬ w3.heap.size = wB.heap.size := by omega
    have nt8t3 : ¬ wB.heap.size = w3.heap.size := by omega
    have nt4t8 : ¬ w4.heap.size = wB.heap.size := by omega
    have nt8t4 : ¬ wB.heap.size = w4.heap.size := by omega
    have nt6t8 : ¬ w5.heap.size = wB.heap.size := by omega
    have nt8t6 : ¬ wB.heap.size = w5.heap.size := by omega
    have nt7t8 : ¬ w5.heap.size + 1 = wB.heap.size := by omega
    have nt8t7 : ¬ wB.heap.size = w5.heap.size + 1 := by omega
    clear hb8 hal8 hd8 c7x f7x c7t3 f7t3 c7t4 f7t4 c7t6 f7t6 c7t7 f7t7
    go_upto_region 12 with (fail)
    go_region_held3 (fun w' => w'.cell? ⟨wB.heap.size, 0, none⟩ = some (.string d1) ∧ w'.cell? ⟨wB.heap.size, 1, none⟩ = some (.string d2) ∧ w'.cell? ⟨wB.heap.size, 2, none⟩ = some (.int .i64 d3) ∧ w'.cell? ⟨wB.heap.size, 3, none⟩ = some (.string d4) ∧ w'.cell? ⟨wB.heap.size, 4, none⟩ = some (.string d5) ∧ w'.cell? ⟨wB.heap.size, 5, none⟩ = some (.string d6) ∧ w'.cell? ⟨w5.heap.size, 0, none⟩ = some (.string d1) ∧ w'.cell? ⟨w5.heap.size, 1, none⟩ = some (.string d2) ∧ w'.cell? ⟨w5.heap.size, 2, none⟩ = some (.int .i64 d3) ∧ w'.cell? ⟨w5.heap.size, 3, none⟩ = some (.string d4) ∧ w'.cell? ⟨w5.heap.size, 4, none⟩ = some (.string d5) ∧ w'.cell? ⟨w5.heap.size, 5, none⟩ = some (.string d6) ∧ w'.cell? ⟨w5.heap.size + 1, 0, none⟩ = some (.int .i64 c1) ∧ w'.cell? ⟨w5.heap.size + 1, 1, none⟩ = some (.string p1))
      ((first | exact cells662 B8t8.out B8t6.out B8t7.out | exact cells662 ((kwC _ l8t8).trans B8t8.out) ((kwC _ l8t6).trans B8t6.out) ((kwC _ l8t7).trans B8t7.out) | exact cells662 ((kwD _ l8t8).trans B8t8.out) ((kwD _ l8t6).trans B8t6.out) ((kwD _ l8t7).trans B8t7.out)))
      ((first | (go_at_call 26; refine (doc_desc d1 d2 d3 d4 d5 d6 _).mono ?_; rintro e wC ⟨rfl, bwC⟩; have zwC : w8.heap.size ≤ wC.heap.size := bwC.size; have b0wC : Below w8.heap.size w8 wC := ⟨bwC.os, bwC.tape, bwC.output, zwC, fun b hb => bwC.block b hb⟩; have kwC : ∀ b, b < w8.heap.size → wC.heap[b]? = w8.heap[b]? := fun b hb => bwC.block b hb; clear bwC) | (go_at_call 27; refine (found_any wB.heap.size _ ev8 c1 p1 (by exact HE8.out.step fun g _ hg => kwC g hg)).mono ?_; rintro e wD ⟨rfl, bwD⟩; have zwD : w8.heap.size ≤ wD.heap.size := Nat.le_trans zwC bwD.size; have b0wD : Below w8.heap.size w8 wD := ⟨bwD.os.trans b0wC.os, bwD.tape.trans b0wC.tape, bwD.output.trans b0wC.output, zwD, fun b hb => (bwD.block b (Nat.lt_of_lt_of_le hb zwC)).trans (kwC b hb)⟩; have kwD : ∀ b, b < w8.heap.size → wD.heap[b]? = w8.heap[b]? := fun b hb => b0wD.block b hb; clear bwD)))
    have hb9 := b0wD
    have HB9 := Lib.hid hb9
    have sz9 := hb9.size
    (try simp at sz9)
    have B9x := Lib.hid (show wD.heap[w.heap.size]? = some (.cells #[.int .i64 v.kind, .bool v.tr, .string v.text, .slice A v.list.length ca, .slice B v.names.length cb] 27 (0, 0)) from (hb9.block (w.heap.size) (by first | omega | (simp; done) | (simp; omega))).trans (by (try dsimp only [World.drew]); (repeat (first | rw [alloc_before (by first | omega | (simp; done) | (simp; omega))] | rw [Below.heap_setCell _ _ _ _ (by first | (simp only; omega) | (simp; omega))])); exact B8x.out))
    have B9t3 := Lib.hid (show wD.heap[w3.heap.size]? = some (.cells #[.int .i64 v.kind, .bool v.tr, .string v.text, .slice A3 v.list.length ca3, .slice B3 v.names.length cb3, .string ⟨#[]⟩, .int .i64 0, .string ⟨#[]⟩] 46 (0, 0)) from (hb9.block (w3.heap.size) (by first | omega | (simp; done) | (simp; omega))).trans (by (try dsimp only [World.drew]); (repeat (first | rw [alloc_before (by first | omega | (simp; done) | (simp; omega))] | rw [Below.heap_setCell _ _ _ _ (by first | (simp only; omega) | (simp; omega))])); exact B8t3.out))
    have B9t7 := Lib.hid (show wD.heap[w5.heap.size + 1]? = some (.cells #[.int .i64 c1, .string p1] 69 (0, 0)) from (hb9.block (w5.heap.size + 1) (by first | omega | (simp; done) | (simp; omega))).trans (by (try dsimp only [World.drew]); (repeat (first | rw [alloc_before (by first | omega | (simp; done) | (simp; omega))] | rw [Below.heap_setCell _ _ _ _ (by first | (simp only; omega) | (simp; omega))])); exact B8t7.out))
    have c9x := fun o => cell_of_row wD (w.heap.size) o _ 27 (0, 0) B9x.out
    have f9x : ∀ o, wD.frozen? ⟨w.heap.size, o, none⟩ = false := fun o => by simp [World.frozen?, B9x.out]
    have l9x : w.heap.size < wD.heap.size := by first | omega | (simp; omega)
    have c9t3 := fun o => cell_of_row wD (w3.heap.size) o _ 46 (0, 0) B9t3.out
    have f9t3 : ∀ o, wD.frozen? ⟨w3.heap.size, o, none⟩ = false := fun o => by simp [World.frozen?, B9t3.out]
    have l9t3 : w3.heap.size < wD.heap.size := by first | omega | (simp; omega)
    have c9t7 := fun o => cell_of_row wD (w5.heap.size + 1) o _ 69 (0, 0) B9t7.out
    have f9t7 : ∀ o, wD.frozen? ⟨w5.heap.size + 1, o, none⟩ = false := fun o => by simp [World.frozen?, B9t7.out]
    have l9t7 : w5.heap.size + 1 < wD.heap.size := by first | omega | (simp; omega)
    clear hb9 c8x f8x c8t3 f8t3 c8t4 f8t4 c8t6 f8t6 c8t7 f8t7 c8t8 f8t8
    go_wp2_with fail
    refine (HT30.out _ (by ((repeat (first | with_reducible refine Below.setCell ?_ (by first | omega | (simp; done) | (simp; omega)) _ | with_reducible refine Below.drew ?_ | with_reducible refine Below.alloc ?_ (by first | omega | (simp; done) | (simp; omega)) _)); refine Below.trans ?_ (HB9.out.mono (by first | omega | (simp; done) | (simp; omega))); (repeat (first | with_reducible refine Below.setCell ?_ (by first | omega | (simp; done) | (simp; omega)) _ | with_reducible refine Below.drew ?_ | with_reducible refine Below.alloc ?_ (by first | omega | (simp; done) | (simp; omega)) _)); refine Below.trans ?_ (HB8.out.mono (by first | omega | (simp; done) | (simp; omega))); (repeat (first | with_reducible refine Below.setCell ?_ (by first | omega | (simp; done) | (simp; omega)) _ | with_reducible refine Below.drew ?_ | with_reducible refine Below.alloc ?_ (by first | omega | (simp; done) | (simp; omega)) _)); refine Below.trans ?_ (HB7.out.mono (by first | omega | (simp; done) | (simp; omega))); (repeat (first | with_reducible refine Below.setCell ?_ (by first | omega | (simp; done) | (simp; omega)) _ | with_reducible refine Below.drew ?_ | with_reducible refine Below.alloc ?_ (by first | omega | (simp; done) | (simp; omega)) _)); refine Below.trans ?_ (HB6.out.mono (by first | omega | (simp; done) | (simp; omega))); (repeat (first | with_reducible refine Below.setCell ?_ (by first | omega | (simp; done) | (simp; omega)) _ | with_reducible refine Below.drew ?_ | with_reducible refine Below.alloc ?_ (by first | omega | (simp; done) | (simp; omega)) _)); refine Below.trans ?_ (HB5.out.mono (by first | omega | (simp; done) | (simp; omega))); (repeat (first | with_reducible refine Below.setCell ?_ (by first | omega | (simp; done) | (simp; omega)) _ | with_reducible refine Below.drew ?_ | with_reducible refine Below.alloc ?_ (by first | omega | (simp; done) | (simp; omega)) _)); refine Below.trans ?_ (HB4.out.mono (by first | omega | (simp; done) | (simp; omega))); (repeat (first | with_reducible refine Below.setCell ?_ (by first | omega | (simp; done) | (simp; omega)) _ | with_reducible refine Below.drew ?_ | with_reducible refine Below.alloc ?_ (by first | omega | (simp; done) | (simp; omega)) _)); refine Below.trans ?_ (HB3.out.mono (by first | omega | (simp; done) | (simp; omega))); (repeat (first | with_reducible refine Below.setCell ?_ (by first | omega | (simp; done) | (simp; omega)) _ | with_reducible refine Below.drew ?_ | with_reducible refine Below.alloc ?_ (by first | omega | (simp; done) | (simp; omega)) _)); refine Below.trans ?_ (HB2.out.mono (by first | omega | (simp; done) | (simp; omega))); (repeat (first | with_reducible refine Below.setCell ?_ (by first | omega | (simp; done) | (simp; omega)) _ | with_reducible refine Below.drew ?_ | with_reducible refine Below.alloc ?_ (by first | omega | (simp; done) | (simp; omega)) _)); refine Below.trans ?_ (HB1.out.mono (by first | omega | (simp; done) | (simp; omega))); (repeat (first | with_reducible refine Below.setCell ?_ (by first | omega | (simp; done) | (simp; omega)) _ | with_reducible refine Below.drew ?_ | with_reducible refine Below.alloc ?_ (by first | omega | (simp; done) | (simp; omega)) _)); exact Below.refl _ _)) (w.heap.size) (wD.heap.size) (by (try dsimp only [World.drew]); (repeat (first | rw [alloc_before (by first | omega | (simp; done) | (simp; omega))] | rw [Below.heap_setCell _ _ _ _ (by first | (simp only; omega) | (simp; omega))])); exact B9x.out) (by (try dsimp only [World.drew]); (repeat (first | rw [alloc_before (by first | omega | (simp; done) | (simp; omega))] | rw [Below.heap_setCell _ _ _ _ (by first | (simp only; omega) | (simp; omega))])); exact alloc_at (by simp))).mono ?_
    rintro e w10 ⟨ev10, rfl, hev10, hb10, hal10, hd10⟩
    have HE10 := Lib.hid (hev10.mono (lo' := wD.heap.size) (by first | omega | (simp; done) | (simp; omega)))
    clear hev10
    have HB10 := Lib.hid hb10
    have sz10 := hal10.size
    (try simp at sz10)
    have B10x := Lib.hid (show w10.heap[w.heap.size]? = some (.cells #[.int .i64 v.kind, .bool v.tr, .string v.text, .slice A v.list.length ca, .slice B v.names.length cb] 27 (0, 0)) from (hal10.block (w.heap.size) (by first | omega | (simp; omega)) (by first | omega | (simp; done) | (simp; omega))).trans (by (try dsimp only [World.drew]); (repeat (first | rw [alloc_before (by first | omega | (simp; done) | (simp; omega))] | rw [Below.heap_setCell _ _ _ _ (by first | (simp only; omega) | (simp; omega))])); exact B9x.out))
    have B10t3 := Lib.hid (show w10.heap[w3.heap.size]? = some (.cells #[.int .i64 v.kind, .bool v.tr, .string v.text, .slice A3 v.list.length ca3, .slice B3 v.names.length cb3, .string ⟨#[]⟩, .int .i64 0, .string ⟨#[]⟩] 46 (0, 0)) from (hal10.block (w3.heap.size) (by first | omega | (simp; omega)) (by first | omega | (simp; done) | (simp; omega))).trans (by (try dsimp only [World.drew]); (repeat (first | rw [alloc_before (by first | omega | (simp; done) | (simp; omega))] | rw [Below.heap_setCell _ _ _ _ (by first | (simp only; omega) | (simp; omega))])); exact B9t3.out))
    have B10t7 := Lib.hid (show w10.heap[w5.heap.size + 1]? = some (.cells #[.int .i64 c1, .string p1] 69 (0, 0)) from (hal10.block (w5.heap.size + 1) (by first | omega | (simp; omega)) (by first | omega | (simp; done) | (simp; omega))).trans (by (try dsimp only [World.drew]); (repeat (first | rw [alloc_before (by first | omega | (simp; done) | (simp; omega))] | rw [Below.heap_setCell _ _ _ _ (by first | (simp only; omega) | (simp; omega))])); exact B9t7.out))
    have B10t9 := Lib.hid (show w10.heap[wD.heap.size]? = some (.cells #[.string q1, .string q2, .string q3] 60 (0, 0)) from hd10)
    have c10x := fun o => cell_of_row w10 (w.heap.size) o _ 27 (0, 0) B10x.out
    have f10x : ∀ o, w10.frozen? ⟨w.heap.size, o, none⟩ = false := fun o => by simp [World.frozen?, B10x.out]
    have l10x : w.heap.size < w10.heap.size := by first | omega | (simp; omega)
    have c10t3 := fun o => cell_of_row w10 (w3.heap.size) o _ 46 (0, 0) B10t3.out
    have f10t3 : ∀ o, w10.frozen? ⟨w3.heap.size, o, none⟩ = false := fun o => by simp [World.frozen?, B10t3.out]
    have l10t3 : w3.heap.size < w10.heap.size := by first | omega | (simp; omega)
    have c10t7 := fun o => cell_of_row w10 (w5.heap.size + 1) o _ 69 (0, 0) B10t7.out
    have f10t7 : ∀ o, w10.frozen? ⟨w5.heap.size + 1, o, none⟩ = false := fun o => by simp [World.frozen?, B10t7.out]
    have l10t7 : w5.heap.size + 1 < w10.heap.size := by first | omega | (simp; omega)
    have c10t9 := fun o => cell_of_row w10 (wD.heap.size) o _ 60 (0, 0) B10t9.out
    have f10t9 : ∀ o, w10.frozen? ⟨wD.heap.size, o, none⟩ = false := fun o => by simp [World.frozen?, B10t9.out]
    have l10t9 : wD.heap.size < w10.heap.size := by first | omega | (simp; omega)
    have nxt9 : ¬ w.heap.size = wD.heap.size := by omega
    have nt9x : ¬ wD.heap.size = w.heap.size := by omega
    have nt3t9 : ¬ w3.heap.size = wD.heap.size := by omega
    have nt9t3 : ¬ wD.heap.size = w3.heap.size := by omega
    have nt7t9 : ¬ w5.heap.size + 1 = wD.heap.size := by omega
    have nt9t7 : ¬ wD.heap.size = w5.heap.size + 1 := by omega
    clear hb10 hal10 hd10 c9x f9x c9t3 f9t3 c9t7 f9t7
    have hx3 : Below w3.heap.size w3 w10 := by ((repeat (first | with_reducible refine Below.setCell ?_ (by first | omega | (simp; done) | (simp; omega)) _ | with_reducible refine Below.drew ?_ | with_reducible refine Below.alloc ?_ (by first | omega | (simp; done) | (simp; omega)) _)); refine Below.trans ?_ (HB10.out.mono (by first | omega | (simp; done) | (simp; omega))); (repeat (first | with_reducible refine Below.setCell ?_ (by first | omega | (simp; done) | (simp; omega)) _ | with_reducible refine Below.drew ?_ | with_reducible refine Below.alloc ?_ (by first | omega | (simp; done) | (simp; omega)) _)); refine Below.trans ?_ (HB9.out.mono (by first | omega | (simp; done) | (simp; omega))); (repeat (first | with_reducible refine Below.setCell ?_ (by first | omega | (simp; done) | (simp; omega)) _ | with_reducible refine Below.drew ?_ | with_reducible refine Below.alloc ?_ (by first | omega | (simp; done) | (simp; omega)) _)); refine Below.trans ?_ (HB8.out.mono (by first | omega | (simp; done) | (simp; omega))); (repeat (first | with_reducible refine Below.setCell ?_ (by first | omega | (simp; done) | (simp; omega)) _ | with_reducible refine Below.drew ?_ | with_reducible refine Below.alloc ?_ (by first | omega | (simp; done) | (simp; omega)) _)); refine Below.trans ?_ (HB7.out.mono (by first | omega | (simp; done) | (simp; omega))); (repeat (first | with_reducible refine Below.setCell ?_ (by first | omega | (simp; done) | (simp; omega)) _ | with_reducible refine Below.drew ?_ | with_reducible refine Below.alloc ?_ (by first | omega | (simp; done) | (simp; omega)) _)); refine Below.trans ?_ (HB6.out.mono (by first | omega | (simp; done) | (simp; omega))); (repeat (first | with_reducible refine Below.setCell ?_ (by first | omega | (simp; done) | (simp; omega)) _ | with_reducible refine Below.drew ?_ | with_reducible refine Below.alloc ?_ (by first | omega | (simp; done) | (simp; omega)) _)); refine Below.trans ?_ (HB5.out.mono (by first | omega | (simp; done) | (simp; omega))); (repeat (first | with_reducible refine Below.setCell ?_ (by first | omega | (simp; done) | (simp; omega)) _ | with_reducible refine Below.drew ?_ | with_reducible refine Below.alloc ?_ (by first | omega | (simp; done) | (simp; omega)) _)); refine Below.trans ?_ (HB4.out.mono (by first | omega | (simp; done) | (simp; omega))); (repeat (first | with_reducible refine Below.setCell ?_ (by first | omega | (simp; done) | (simp; omega)) _ | with_reducible refine Below.drew ?_ | with_reducible refine Below.alloc ?_ (by first | omega | (simp; done) | (simp; omega)) _)); exact Below.refl _ _)
    go_wp2_with fail
    refine (HPD3.out _ _ (HU.out.agree (S' := fun _ => True) fun b hb hlt => ⟨hx3.block b hlt, trivial⟩)).mono ?_
    rintro e w11 ⟨rfl, hb11⟩
    have HE11 := Lib.hid (HE10.out.step (w' := w11) fun g _ hg => hb11.block g (by first | omega | (simp; omega)))
    have HB11 := Lib.hid hb11
    have sz11 := hb11.size
    (try simp at sz11)
    have B11x := Lib.hid (show w11.heap[w.heap.size]? = some (.cells #[.int .i64 v.kind, .bool v.tr, .string v.text, .slice A v.list.length ca, .slice B v.names.length cb] 27 (0, 0)) from (hb11.block (w.heap.size) (by first | omega | (simp; done) | (simp; omega))).trans (by (try dsimp only [World.drew]); (repeat (first | rw [alloc_before (by first | omega | (simp; done) | (simp; omega))] | rw [Below.heap_setCell _ _ _ _ (by first | (simp only; omega) | (simp; omega))])); exact B10x.out))
    have B11t3 := Lib.hid (show w11.heap[w3.heap.size]? = some (.cells #[.int .i64 v.kind, .bool v.tr, .string v.text, .slice A3 v.list.length ca3, .slice B3 v.names.length cb3, .string ⟨#[]⟩, .int .i64 0, .string ⟨#[]⟩] 46 (0, 0)) from (hb11.block (w3.heap.size) (by first | omega | (simp; done) | (simp; omega))).trans (by (try dsimp only [World.drew]); (repeat (first | rw [alloc_before (by first | omega | (simp; done) | (simp; omega))] | rw [Below.heap_setCell _ _ _ _ (by first | (simp only; omega) | (simp; omega))])); exact B10t3.out))
    have B11t7 := Lib.hid (show w11.heap[w5.heap.size + 1]? = some (.cells #[.int .i64 c1, .string p1] 69 (0, 0)) from (hb11.block (w5.heap.size + 1) (by first | omega | (simp; done) | (simp; omega))).trans (by (try dsimp only [World.drew]); (repeat (first | rw [alloc_before (by first | omega | (simp; done) | (simp; omega))] | rw [Below.heap_setCell _ _ _ _ (by first | (simp only; omega) | (simp; omega))])); exact B10t7.out))
    have B11t9 := Lib.hid (show w11.heap[wD.heap.size]? = some (.cells #[.string q1, .string q2, .string q3] 60 (0, 0)) from (hb11.block (wD.heap.size) (by first | omega | (simp; done) | (simp; omega))).trans (by (try dsimp only [World.drew]); (repeat (first | rw [alloc_before (by first | omega | (simp; done) | (simp; omega))] | rw [Below.heap_setCell _ _ _ _ (by first | (simp only; omega) | (simp; omega))])); exact B10t9.out))
    have c11x := fun o => cell_of_row w11 (w.heap.size) o _ 27 (0, 0) B11x.out
    have f11x : ∀ o, w11.frozen? ⟨w.heap.size, o, none⟩ = false := fun o => by simp [World.frozen?, B11x.out]
    have l11x : w.heap.size < w11.heap.size := by first | omega | (simp; omega)
    have c11t3 := fun o => cell_of_row w11 (w3.heap.size) o _ 46 (0, 0) B11t3.out
    have f11t3 : ∀ o, w11.frozen? ⟨w3.heap.size, o, none⟩ = false := fun o => by simp [World.frozen?, B11t3.out]
    have l11t3 : w3.heap.size < w11.heap.size := by first | omega | (simp; omega)
    have c11t7 := fun o => cell_of_row w11 (w5.heap.size + 1) o _ 69 (0, 0) B11t7.out
    have f11t7 : ∀ o, w11.frozen? ⟨w5.heap.size + 1, o, none⟩ = false := fun o => by simp [World.frozen?, B11t7.out]
    have l11t7 : w5.heap.size + 1 < w11.heap.size := by first | omega | (simp; omega)
    have c11t9 := fun o => cell_of_row w11 (wD.heap.size) o _ 60 (0, 0) B11t9.out
    have f11t9 : ∀ o, w11.frozen? ⟨wD.heap.size, o, none⟩ = false := fun o => by simp [World.frozen?, B11t9.out]
    have l11t9 : wD.heap.size < w11.heap.size := by first | omega | (simp; omega)
    clear hb11 c10x f10x c10t3 f10t3 c10t7 f10t7 c10t9 f10t9
    go_upto_region 17 with (fail)
    generalize hW12 : (((w11).setCell ⟨w5.heap.size + 1, 0, none⟩ (.int .i64 c2)).setCell ⟨w5.heap.size + 1, 1, none⟩ (.string p2)).alloc (.cells #[.string q1, .string q2, .string q3] 65) = W12
    have HB12 := Lib.hid (show Below w.heap.size w11 W12 by rw [← hW12]; (repeat (first | with_reducible refine Below.setCell ?_ (by first | omega | (simp; done) | (simp; omega)) _ | with_reducible refine Below.drew ?_ | with_reducible refine Below.alloc ?_ (by first | omega | (simp; done) | (simp; omega)) _)); exact Below.refl _ _)
    have sz12 : W12.heap.size = w11.heap.size + 1 := by rw [← hW12]; simp
    have B12x := Lib.hid (show W12.heap[w.heap.size]? = some (.cells #[.int .i64 v.kind, .bool v.tr, .string v.text, .slice A v.list.length ca, .slice B v.names.length cb] 27 (0, 0)) from by rw [← hW12]; (try dsimp only [World.drew]); (repeat (first | rw [alloc_before (by first | omega | (simp; done) | (simp; omega))] | rw [Below.heap_setCell _ _ _ _ (by first | (simp only; omega) | (simp; omega))])); exact B11x.out)
    have B12t3 := Lib.hid (show W12.heap[w3.heap.size]? = some (.cells #[.int .i64 v.kind, .bool v.tr, .string v.text, .slice A3 v.list.length ca3, .slice B3 v.names.length cb3, .string ⟨#[]⟩, .int .i64 0, .string ⟨#[]⟩] 46 (0, 0)) from by rw [← hW12]; (try dsimp only [World.drew]); (repeat (first | rw [alloc_before (by first | omega | (simp; done) | (simp; omega))] | rw [Below.heap_setCell _ _ _ _ (by first | (simp only; omega) | (simp; omega))])); exact B11t3.out)
    have B12t7 := Lib.hid (show W12.heap[w5.heap.size + 1]? = some (.cells #[.int .i64 c2, .string p2] 69 (0, 0)) from by rw [← hW12]; (try dsimp only [World.drew]); (repeat (first | rw [alloc_before (by first | omega | (simp; done) | (simp; omega))] | rw [Below.heap_setCell _ _ _ _ (by first | (simp only; omega) | (simp; omega))])); refine (blk_set (cs := #[.int .i64 c2, .string p1]) ?_ _ _).trans rfl; (try dsimp only [World.drew]); (repeat (first | rw [alloc_before (by first | omega | (simp; done) | (simp; omega))] | rw [Below.heap_setCell _ _ _ _ (by first | (simp only; omega) | (simp; omega))])); refine (blk_set (cs := #[.int .i64 c1, .string p1]) ?_ _ _).trans rfl; (try dsimp only [World.drew]); (repeat (first | rw [alloc_before (by first | omega | (simp; done) | (simp; omega))] | rw [Below.heap_setCell _ _ _ _ (by first | (simp only; omega) | (simp; omega))])); exact B11t7.out)
    have B12t9 := Lib.hid (show W12.heap[wD.heap.size]? = some (.cells #[.string q1, .string q2, .string q3] 60 (0, 0)) from by rw [← hW12]; (try dsimp only [World.drew]); (repeat (first | rw [alloc_before (by first | omega | (simp; done) | (simp; omega))] | rw [Below.heap_setCell _ _ _ _ (by first | (simp only; omega) | (simp; omega))])); exact B11t9.out)
    have B12t10 := Lib.hid (show W12.heap[w11.heap.size]? = some (.cells #[.string q1, .string q2, .string q3] 65 (0, 0)) from by rw [← hW12]; (try dsimp only [World.drew]); (repeat (first | rw [alloc_before (by first | omega | (simp; done) | (simp; omega))] | rw [Below.heap_setCell _ _ _ _ (by first | (simp only; omega) | (simp; omega))])); exact alloc_at (by simp))
    have c12x := fun o => cell_of_row W12 (w.heap.size) o _ 27 (0, 0) B12x.out
    have f12x : ∀ o, W12.frozen? ⟨w.heap.size, o, none⟩ = false := fun o => by simp [World.frozen?, B12x.out]
    have l12x : w.heap.size < W12.heap.size := by first | omega | (simp; omega)
    have c12t3 := fun o => cell_of_row W12 (w3.heap.size) o _ 46 (0, 0) B12t3.out
    have f12t3 : ∀ o, W12.frozen? ⟨w3.heap.size, o, none⟩ = false := fun o => by simp [World.frozen?, B12t3.out]
    have l12t3 : w3.heap.size < W12.heap.size := by first | omega | (simp; omega)
    have c12t7 := fun o => cell_of_row W12 (w5.heap.size + 1) o _ 69 (0, 0) B12t7.out
    have f12t7 : ∀ o, W12.frozen? ⟨w5.heap.size + 1, o, none⟩ = false := fun o => by simp [World.frozen?, B12t7.out]
    have l12t7 : w5.heap.size + 1 < W12.heap.size := by first | omega | (simp; omega)
    have c12t9 := fun o => cell_of_row W12 (wD.heap.size) o _ 60 (0, 0) B12t9.out
    have f12t9 : ∀ o, W12.frozen? ⟨wD.heap.size, o, none⟩ = false := fun o => by simp [World.frozen?, B12t9.out]
    have l12t9 : wD.heap.size < W12.heap.size := by first | omega | (simp; omega)
    have c12t10 := fun o => cell_of_row W12 (w11.heap.size) o _ 65 (0, 0) B12t10.out
    have f12t10 : ∀ o, W12.frozen? ⟨w11.heap.size, o, none⟩ = false := fun o => by simp [World.frozen?, B12t10.out]
    have l12t10 : w11.heap.size < W12.heap.size := by first | omega | (simp; omega)
    have nxt10 : ¬ w.heap.size = w11.heap.size := by omega
    have nt10x : ¬ w11.heap.size = w.heap.size := by omega
    have nt3t10 : ¬ w3.heap.size = w11.heap.size := by omega
    have nt10t3 : ¬ w11.heap.size = w3.heap.size := by omega
    have nt7t10 : ¬ w5.heap.size + 1 = w11.heap.size := by omega
    have nt10t7 : ¬ w11.heap.size = w5.heap.size + 1 := by omega
    have nt9t10 : ¬ wD.heap.size = w11.heap.size := by omega
    have nt10t9 : ¬ w11.heap.size = wD.heap.size := by omega
    have HE12 := Lib.hid (HE11.out.step (w' := W12) fun g hlo hg => by rw [← hW12]; (repeat (first | rw [alloc_before (by first | (simp only [setCell_size]; exact hg) | (simp; omega))] | rw [Below.heap_setCell _ _ _ _ (by first | (simp only; omega) | (simp; omega))])))
    clear hW12 c11x f11x c11t3 f11t3 c11t7 f11t7 c11t9 f11t9
    go_region_held3 (fun w' => w'.cell? ⟨wD.heap.size, 0, none⟩ = some (.string q1) ∧ w'.cell? ⟨wD.heap.size, 1, none⟩ = some (.string q2) ∧ w'.cell? ⟨wD.heap.size, 2, none⟩ = some (.string q3) ∧ w'.cell? ⟨w11.heap.size, 0, none⟩ = some (.string q1) ∧ w'.cell? ⟨w11.heap.size, 1, none⟩ = some (.string q2) ∧ w'.cell? ⟨w11.heap.size, 2, none⟩ = some (.string q3) ∧ w'.cell? ⟨w5.heap.size + 1, 0, none⟩ = some (.int .i64 c2) ∧ w'.cell? ⟨w5.heap.size + 1, 1, none⟩ = some (.string p2))
      ((first | exact cells332 B12t9.out B12t10.out B12t7.out | exact cells332 ((kwE _ l12t9).trans B12t9.out) ((kwE _ l12t10).trans B12t10.out) ((kwE _ l12t7).trans B12t7.out)))
      ((first | (go_at_call 27; refine (found_any wD.heap.size _ ev10 c2 p2 (by exact HE12.out)).mono ?_; rintro e wE ⟨rfl, bwE⟩; have zwE : W12.heap.size ≤ wE.heap.size := bwE.size; have b0wE : Below W12.heap.size W12 wE := ⟨bwE.os, bwE.tape, bwE.output, zwE, fun b hb => bwE.block b hb⟩; have kwE : ∀ b, b < W12.heap.size → wE.heap[b]? = W12.heap[b]? := fun b hb => bwE.block b hb; clear bwE)))
    have hb13 := b0wE
    have HB13 := Lib.hid hb13
    have sz13 := hb13.size
    (try simp at sz13)
    have B13x := Lib.hid (show wE.heap[w.heap.size]? = some (.cells #[.int .i64 v.kind, .bool v.tr, .string v.text, .slice A v.list.length ca, .slice B v.names.length cb] 27 (0, 0)) from (hb13.block (w.heap.size) (by first | omega | (simp; done) | (simp; omega))).trans (by (try dsimp only [World.drew]); (repeat (first | rw [alloc_before (by first | omega | (simp; done) | (simp; omega))] | rw [Below.heap_setCell _ _ _ _ (by first | (simp only; omega) | (simp; omega))])); exact B12x.out))
    have c13x := fun o => cell_of_row wE (w.heap.size) o _ 27 (0, 0) B13x.out
    have f13x : ∀ o, wE.frozen? ⟨w.heap.size, o, none⟩ = false := fun o => by simp [World.frozen?, B13x.out]
    have l13x : w.heap.size < wE.heap.size := by first | omega | (simp; omega)
    clear hb13 c12x f12x c12t3 f12t3 c12t7 f12t7 c12t9 f12t9 c12t10 f12t10
    go_wp2
    go_ret
    exact ⟨rfl, (by ((repeat (first | with_reducible refine Below.setCell ?_ (by first | omega | (simp; done) | (simp; omega)) _ | with_reducible refine Below.drew ?_ | with_reducible refine Below.alloc ?_ (by first | omega | (simp; done) | (simp; omega)) _)); refine Below.trans ?_ (HB13.out.mono (by first | omega | (simp; done) | (simp; omega))); (repeat (first | with_reducible refine Below.setCell ?_ (by first | omega | (simp; done) | (simp; omega)) _ | with_reducible refine Below.drew ?_ | with_reducible refine Below.alloc ?_ (by first | omega | (simp; done) | (simp; omega)) _)); refine Below.trans ?_ (HB12.out.mono (by first | omega | (simp; done) | (simp; omega))); (repeat (first | with_reducible refine Below.setCell ?_ (by first | omega | (simp; done) | (simp; omega)) _ | with_reducible refine Below.drew ?_ | with_reducible refine Below.alloc ?_ (by first | omega | (simp; done) | (simp; omega)) _)); refine Below.trans ?_ (HB11.out.mono (by first | omega | (simp; done) | (simp; omega))); (repeat (first | with_reducible refine Below.setCell ?_ (by first | omega | (simp; done) | (simp; omega)) _ | with_reducible refine Below.drew ?_ | with_reducible refine Below.alloc ?_ (by first | omega | (simp; done) | (simp; omega)) _)); refine Below.trans ?_ (HB10.out.mono (by first | omega | (simp; done) | (simp; omega))); (repeat (first | with_reducible refine Below.setCell ?_ (by first | omega | (simp; done) | (simp; omega)) _ | with_reducible refine Below.drew ?_ | with_reducible refine Below.alloc ?_ (by first | omega | (simp; done) | (simp; omega)) _)); refine Below.trans ?_ (HB9.out.mono (by first | omega | (simp; done) | (simp; omega))); (repeat (first | with_reducible refine Below.setCell ?_ (by first | omega | (simp; done) | (simp; omega)) _ | with_reducible refine Below.drew ?_ | with_reducible refine Below.alloc ?_ (by first | omega | (simp; done) | (simp; omega)) _)); refine Below.trans ?_ (HB8.out.mono (by first | omega | (simp; done) | (simp; omega))); (repeat (first | with_reducible refine Below.setCell ?_ (by first | omega | (simp; done) | (simp; omega)) _ | with_reducible refine Below.drew ?_ | with_reducible refine Below.alloc ?_ (by first | omega | (simp; done) | (simp; omega)) _)); refine Below.trans ?_ (HB7.out.mono (by first | omega | (simp; done) | (simp; omega))); (repeat (first | with_reducible refine Below.setCell ?_ (by first | omega | (simp; done) | (simp; omega)) _ | with_reducible refine Below.drew ?_ | with_reducible refine Below.alloc ?_ (by first | omega | (simp; done) | (simp; omega)) _)); refine Below.trans ?_ (HB6.out.mono (by first | omega | (simp; done) | (simp; omega))); (repeat (first | with_reducible refine Below.setCell ?_ (by first | omega | (simp; done) | (simp; omega)) _ | with_reducible refine Below.drew ?_ | with_reducible refine Below.alloc ?_ (by first | omega | (simp; done) | (simp; omega)) _)); refine Below.trans ?_ (HB5.out.mono (by first | omega | (simp; done) | (simp; omega))); (repeat (first | with_reducible refine Below.setCell ?_ (by first | omega | (simp; done) | (simp; omega)) _ | with_reducible refine Below.drew ?_ | with_reducible refine Below.alloc ?_ (by first | omega | (simp; done) | (simp; omega)) _)); refine Below.trans ?_ (HB4.out.mono (by first | omega | (simp; done) | (simp; omega))); (repeat (first | with_reducible refine Below.setCell ?_ (by first | omega | (simp; done) | (simp; omega)) _ | with_reducible refine Below.drew ?_ | with_reducible refine Below.alloc ?_ (by first | omega | (simp; done) | (simp; omega)) _)); refine Below.trans ?_ (HB3.out.mono (by first | omega | (simp; done) | (simp; omega))); (repeat (first | with_reducible refine Below.setCell ?_ (by first | omega | (simp; done) | (simp; omega)) _ | with_reducible refine Below.drew ?_ | with_reducible refine Below.alloc ?_ (by first | omega | (simp; done) | (simp; omega)) _)); refine Below.trans ?_ (HB2.out.mono (by first | omega | (simp; done) | (simp; omega))); (repeat (first | with_reducible refine Below.setCell ?_ (by first | omega | (simp; done) | (simp; omega)) _ | with_reducible refine Below.drew ?_ | with_reducible refine Below.alloc ?_ (by first | omega | (simp; done) | (simp; omega)) _)); refine Below.trans ?_ (HB1.out.mono (by first | omega | (simp; done) | (simp; omega))); (repeat (first | with_reducible refine Below.setCell ?_ (by first | omega | (simp; done) | (simp; omega)) _ | with_reducible refine Below.drew ?_ | with_reducible refine Below.alloc ?_ (by first | omega | (simp; done) | (simp; omega)) _)); exact Below.refl _ _))⟩

end Go.Proofs.YtoimjnmhinfbkaaGreatDoor
