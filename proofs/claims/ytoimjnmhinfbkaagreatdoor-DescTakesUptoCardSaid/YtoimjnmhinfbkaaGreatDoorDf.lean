import Derived.Test.YtoimjnmhinfbkaaGreatDoorDe
namespace Go.Proofs.YtoimjnmhinfbkaaGreatDoor
open Go.RowKit
set_option maxRecDepth 100000

def perhapsA (v : V) (p name : ByteArray) (most : Int) : Except (Int × ByteArray) ByteArray :=
  match v.maybe name with
  | none => .ok ⟨#[]⟩
  | some u => textA u (fieldPlace p name) most

theorem hb_le {w1 w2 : World} {n : Nat} (h : Below n w1 w2) : w1.heap.size ≤ w2.heap.size := h.size

theorem perhapsA_codes {v : V} {p name : ByteArray} {most : Int} {b : Int × ByteArray} (h : perhapsA v p name most = .error b) : b.1 ≠ 0 := by
  unfold perhapsA at h
  split at h
  · cases h
  · have := textA_codes h; omega

set_option maxHeartbeats 1600000 in
theorem perhaps_doc (v : V) (cs : List Value) (p name : ByteArray) (most : Int) (w : World) (S : Nat → Prop) (hv : v.Rep w S cs) (hb : v.bulk ≤ 4194304) (hk5 : v.kind = 5) (hp : p.size ≤ 1000000) (hn : name.size ≤ 1000000) :
    Calls Tryz.prog 75 #[docCells cs p 0 ⟨#[]⟩, .string name, .int .i64 most] w (DocS2 w (perhapsA v p name most)) := by
  generalize hr : perhapsA v p name most = r
  have HR := Lib.hid hr
  have HV := Lib.hid hv
  have HK := Lib.hid hk5
  obtain ⟨A, ca, B, cb, rfl, -⟩ := hv.open
  clear hr hv hk5
  simp only [docCells, List.cons_append, List.nil_append]
  go_enter Tryz.func75, Tryz.ntmps75
  go_wp2_with fail
  refine (dmaybe_any v [.int .i64 v.kind, .bool v.tr, .string v.text, .slice A v.list.length ca, .slice B v.names.length cb] p name _ S (HV.out.agree fun b hb hlt => ⟨below_agree (((Below.refl _ _).alloc (Nat.le_refl _) _).alloc (by simp) _) b hlt, hb⟩) hb HK.out (by omega) (by omega)).mono ?_
  rintro e w1 h1
  cases hf : v.maybe name with
  | none =>
    rw [hf] at h1
    have HR2 := Lib.hid (show r = .ok ⟨#[]⟩ by rw [← HR.out]; simp only [perhapsA, hf])
    obtain ⟨rfl, hb1⟩ := h1
    simp only [docBad]
    have hz1 : w.heap.size + 1 < w1.heap.size := by have := hb1.size; simp at this; omega
    have hz1' : w.heap.size < w1.heap.size := by omega
    obtain ⟨hc1, hf1⟩ := bcell hb1
    clear hf
    go_wp2_with (go_at_call 71; refine (from_doc _ _ _ _ _ _ _ _ _ _ _ _ _).mono ?_; rintro e w2 ⟨rfl, hb2⟩; obtain ⟨hc2, hf2⟩ := bcell hb2; have hz2 : w.heap.size + 1 < w2.heap.size := (by have := hb2.size; simp at this; omega); have hz2' : w.heap.size < w2.heap.size := (by omega))
    refine bodyPost_ret (v := .tuple #[.string ⟨#[]⟩, .agg #[.int .i64 0, .string ⟨#[]⟩]]) (by simp [results, Tryz.results75, go_sem, hc2, hc1, hz1, hz2, hz1', hz2']) rfl ?_
    refine ⟨by rw [HR2.out]; rfl, ?_⟩
    (repeat (first | with_reducible refine Below.setCell ?_ (by first | omega | (simp; done) | (simp; omega)) _ | with_reducible refine Below.drew ?_ | with_reducible refine Below.alloc ?_ (by first | omega | (simp; done) | (simp; omega)) _))
    exact ((((Below.refl _ _).alloc (Nat.le_refl _) _).alloc (by simp) _).trans (hb1.mono (by simp; omega))).trans (((Below.refl _ _).alloc (by omega) _).trans (hb2.mono (by simp; omega)))
  | some u =>
    rw [hf] at h1
    obtain ⟨cs1, rfl, hrep1, hb1⟩ := h1
    have hub : u.bulk ≤ 4194304 := by have := V.get_bulk (V.maybe_get hf); omega
    obtain ⟨A1, ca1, B1, cb1, rfl, -⟩ := hrep1.open
    have HR2 := Lib.hid (show r = textA u (fieldPlace p name) most by rw [← HR.out]; simp only [perhapsA, hf])
    have hz1 : w.heap.size + 1 < w1.heap.size := by have := hb1.size; simp at this; omega
    have hz1' : w.heap.size < w1.heap.size := by omega
    obtain ⟨hc1, hf1⟩ := bcell hb1
    have HB1 := Lib.hid hb1
    simp only [docCells, List.cons_append, List.nil_append]
    clear hf hrep1 hb1
    go_wp2_with fail
    refine (dtext_any u A1 _ ca1 B1 _ cb1 (fieldPlace p name) most _ hub).mono ?_
    rintro e w2 ⟨rfl, hb2⟩
    rw [← HR2.out]
    simp only [docBad]
    obtain ⟨hc2, hf2⟩ := bcell hb2
    have hz2 : w1.heap.size < w2.heap.size := by have := hb2.size; simp at this; omega
    have hz4 : w.heap.size + 1 < w2.heap.size := by omega
    have hz4' : w.heap.size < w2.heap.size := by omega
    go_wp2_with (go_at_call 71; refine (from_doc _ _ _ _ _ _ _ _ _ _ _ _ _).mono ?_; rintro e w3 ⟨rfl, hb3⟩; obtain ⟨hc3, hf3⟩ := bcell hb3; have hz3 : w2.heap.size < w3.heap.size := (by have := hb3.size; simp at this; omega); have hz5 : w.heap.size + 1 < w3.heap.size := (by omega); have hz5' : w.heap.size < w3.heap.size := (by omega))
    refine bodyPost_ret (v := .tuple #[.string (strE r), .agg #[.int .i64 (codeE r), .string (whereE r)]]) (by simp [results, Tryz.results75, go_sem, hc3, hc2, hc1, hz1, hz2, hz4, hz5, hz1', hz4', hz5']) rfl ?_
    refine ⟨rfl, ?_⟩
    (repeat (first | with_reducible refine Below.setCell ?_ (by first | omega | (simp; done) | (simp; omega)) _ | with_reducible refine Below.drew ?_ | with_reducible refine Below.alloc ?_ (by first | omega | (simp; done) | (simp; omega)) _))
    exact (((((Below.refl _ _).alloc (Nat.le_refl _) _).alloc (by simp) _).trans (HB1.out.mono (by simp; omega))).trans (((Below.refl _ _).alloc (by omega) _).trans (hb2.mono (by simp; omega)))).trans (((Below.refl _ _).alloc (by omega) _).trans (hb3.mono (by simp; omega)))

def platE : Except (Int × ByteArray) (ByteArray × ByteArray × ByteArray) → ByteArray × ByteArray × ByteArray
  | .ok r => r
  | .error _ => (⟨#[]⟩, ⟨#[]⟩, ⟨#[]⟩)
def DocP (w : World) (r : Except (Int × ByteArray) (ByteArray × ByteArray × ByteArray)) (e : Ending) (w' : World) : Prop :=
  e = .returned (.tuple #[.agg #[.string (platE r).1, .string (platE r).2.1, .string (platE r).2.2], .agg #[.int .i64 (codeE r), .string (whereE r)]]) ∧ Below w.heap.size w w'

theorem filledA_codes {v : V} {p name : ByteArray} {most : Int} {b : Int × ByteArray} (h : filledA v p name most = .error b) : b.1 ≠ 0 := by
  unfold filledA at h
  split at h
  · rename_i b' hb'
    injection h with h; subst h
    have := fieldA_codes hb'; omega
  · split at h
    · rename_i b' hb'
      injection h with h; subst h
      have := textA_codes hb'; omega
    · split at h
      · injection h with h; subst h; simp
      · cases h

theorem varA_eq (v : V) (p : ByteArray) : varA v p = perhapsA v p nVar 64 := rfl

set_option maxHeartbeats 4000000 in
theorem plat_doc (v : V) (cs : List Value) (p : ByteArray) (w : World) (S : Nat → Prop) (hv : v.Rep w S cs) (hb : v.bulk ≤ 4194304) (hp : p.size ≤ 1000000) :
    Calls Tryz.prog 32 #[docCells cs p 0 ⟨#[]⟩] w (DocP w (platA v p)) := by
  generalize hr : platA v p = r
  have HR := Lib.hid hr
  have HV := Lib.hid hv
  have H1 := fun W hW => filled_doc v cs p ⟨#[97, 114, 99, 104, 105, 116, 101, 99, 116, 117, 114, 101]⟩ 64 W S hW hb hp (by decide)
  have H2 := fun W hW => filled_doc v cs p ⟨#[111, 115]⟩ 64 W S hW hb hp (by decide)
  have H3 := fun W hW hk => perhaps_doc v cs p ⟨#[118, 97, 114, 105, 97, 110, 116]⟩ 64 W S hW hb hk hp (by decide)
  obtain ⟨A, ca, B, cb, rfl, -⟩ := hv.open
  simp only [docCells, List.cons_append, List.nil_append] at H1 H2 H3 ⊢
  have G1 := Lib.hid H1
  have G2 := Lib.hid H2
  have G3 := Lib.hid H3
  clear hr hv H1 H2 H3
  go_enter Tryz.func32, Tryz.ntmps32
  go_wp2_with fail
  refine (G1.out _ (by exact HV.out.agree fun b hb hlt => ⟨Below.block (B := w.heap.size) (by ((repeat (first | with_reducible refine Below.setCell ?_ (by first | omega | (simp; done) | (simp; omega)) _ | with_reducible refine Below.drew ?_ | with_reducible refine Below.alloc ?_ (by first | omega | (simp; done) | (simp; omega)) _)); exact Below.refl _ _)) b hlt, hb⟩)).mono ?_
  rintro e w1 h1
  cases hf : filledA v p ⟨#[97, 114, 99, 104, 105, 116, 101, 99, 116, 117, 114, 101]⟩ 64 with
  | error b =>
    rw [hf] at h1
    have hcode : b.1 ≠ 0 := filledA_codes hf
    obtain ⟨c, z⟩ := b
    have HR2 := Lib.hid (show r = .error (c, z) by rw [← HR.out]; unfold platA; unfold nArch; rw [hf])
    have h1' : e = .returned (.tuple #[.string ⟨#[]⟩, .agg #[.int .i64 c, .string z]]) ∧ Below _ _ w1 := h1
    obtain ⟨rfl, hb1⟩ := h1'
    have hc0 : (c != 0) = true := by simpa using hcode
    clear hf hcode h1
    have HB1 := Lib.hid hb1
    have sz1 := hb1.size
    (try simp at sz1)
    have B1x := Lib.hid (show w1.heap[w.heap.size]? = some (.cells #[.int .i64 v.kind, .bool v.tr, .string v.text, .slice A v.list.length ca, .slice B v.names.length cb, .string p, .int .i64 0, .string ⟨#[]⟩] 46 (0, 0)) from (hb1.block (w.heap.size) (by first | omega | (simp; done) | (simp; omega))).trans (by (repeat (first | rw [alloc_before (by first | omega | (simp; done) | (simp; omega))] | rw [Below.heap_setCell _ _ _ _ (by first | (simp only; omega) | (simp; omega))])); exact alloc_at (by simp)))
    have B1r := Lib.hid (show w1.heap[w.heap.size + 1]? = some (.cells #[.string ⟨#[]⟩, .string ⟨#[]⟩, .string ⟨#[]⟩] 65 (0, 0)) from (hb1.block (w.heap.size + 1) (by first | omega | (simp; done) | (simp; omega))).trans (by (repeat (first | rw [alloc_before (by first | omega | (simp; done) | (simp; omega))] | rw [Below.heap_setCell _ _ _ _ (by first | (simp only; omega) | (simp; omega))])); exact alloc_at (by simp)))
    have B1q := Lib.hid (show w1.heap[w.heap.size + 1 + 1]? = some (.cells #[.int .i64 0, .string ⟨#[]⟩] 69 (0, 0)) from (hb1.block (w.heap.size + 1 + 1) (by first | omega | (simp; done) | (simp; omega))).trans (by (repeat (first | rw [alloc_before (by first | omega | (simp; done) | (simp; omega))] | rw [Below.heap_setCell _ _ _ _ (by first | (simp only; omega) | (simp; omega))])); exact alloc_at (by simp)))
    have c1x := fun o => cell_of_row w1 (w.heap.size) o _ 46 (0, 0) B1x.out
    have f1x : ∀ o, w1.frozen? ⟨w.heap.size, o, none⟩ = false := fun o => by simp [World.frozen?, B1x.out]
    have l1x : w.heap.size < w1.heap.size := by first | omega | (simp; omega)
    have c1r := fun o => cell_of_row w1 (w.heap.size + 1) o _ 65 (0, 0) B1r.out
    have f1r : ∀ o, w1.frozen? ⟨w.heap.size + 1, o, none⟩ = false := fun o => by simp [World.frozen?, B1r.out]
    have l1r : w.heap.size + 1 < w1.heap.size := by first | omega | (simp; omega)
    have c1q := fun o => cell_of_row w1 (w.heap.size + 1 + 1) o _ 69 (0, 0) B1q.out
    have f1q : ∀ o, w1.frozen? ⟨w.heap.size + 1 + 1, o, none⟩ = false := fun o => by simp [World.frozen?, B1q.out]
    have l1q : w.heap.size + 1 + 1 < w1.heap.size := by first | omega | (simp; omega)
    clear hb1
    go_wp2_with fail
    go_region
    all_goals
      go_wp2
      refine bodyPost_ret (v := .tuple #[.agg #[.string ⟨#[]⟩, .string ⟨#[]⟩, .string ⟨#[]⟩], .agg #[.int .i64 c, .string z]]) (by simp [results, Tryz.results32, go_sem, c1x, f1x, c1r, f1r, c1q, f1q, l1x, l1r, l1q]) rfl ?_
      refine ⟨by rw [HR2.out]; rfl, ?_⟩
      ((repeat (first | with_reducible refine Below.setCell ?_ (by first | omega | (simp; done) | (simp; omega)) _ | with_reducible refine Below.drew ?_ | with_reducible refine Below.alloc ?_ (by first | omega | (simp; done) | (simp; omega)) _)); refine Below.trans ?_ (HB1.out.mono (by first | omega | (simp; done) | (simp; omega))); (repeat (first | with_reducible refine Below.setCell ?_ (by first | omega | (simp; done) | (simp; omega)) _ | with_reducible refine Below.drew ?_ | with_reducible refine Below.alloc ?_ (by first | omega | (simp; done) | (simp; omega)) _)); exact Below.refl _ _)
  | ok a =>
    rw [hf] at h1
    have HF1 := Lib.hid hf
    have HK := Lib.hid (filledA_kind hf)
    have h1' : e = .returned (.tuple #[.string a, .agg #[.int .i64 0, .string ⟨#[]⟩]]) ∧ Below _ _ w1 := h1
    obtain ⟨rfl, hb1⟩ := h1'
    clear hf h1
    have HB1 := Lib.hid hb1
    have sz1 := hb1.size
    (try simp at sz1)
    have B1x := Lib.hid (show w1.heap[w.heap.size]? = some (.cells #[.int .i64 v.kind, .bool v.tr, .string v.text, .slice A v.list.length ca, .slice B v.names.length cb, .string p, .int .i64 0, .string ⟨#[]⟩] 46 (0, 0)) from (hb1.block (w.heap.size) (by first | omega | (simp; done) | (simp; omega))).trans (by (repeat (first | rw [alloc_before (by first | omega | (simp; done) | (simp; omega))] | rw [Below.heap_setCell _ _ _ _ (by first | (simp only; omega) | (simp; omega))])); exact alloc_at (by simp)))
    have B1r := Lib.hid (show w1.heap[w.heap.size + 1]? = some (.cells #[.string ⟨#[]⟩, .string ⟨#[]⟩, .string ⟨#[]⟩] 65 (0, 0)) from (hb1.block (w.heap.size + 1) (by first | omega | (simp; done) | (simp; omega))).trans (by (repeat (first | rw [alloc_before (by first | omega | (simp; done) | (simp; omega))] | rw [Below.heap_setCell _ _ _ _ (by first | (simp only; omega) | (simp; omega))])); exact alloc_at (by simp)))
    have B1q := Lib.hid (show w1.heap[w.heap.size + 1 + 1]? = some (.cells #[.int .i64 0, .string ⟨#[]⟩] 69 (0, 0)) from (hb1.block (w.heap.size + 1 + 1) (by first | omega | (simp; done) | (simp; omega))).trans (by (repeat (first | rw [alloc_before (by first | omega | (simp; done) | (simp; omega))] | rw [Below.heap_setCell _ _ _ _ (by first | (simp only; omega) | (simp; omega))])); exact alloc_at (by simp)))
    have c1x := fun o => cell_of_row w1 (w.heap.size) o _ 46 (0, 0) B1x.out
    have f1x : ∀ o, w1.frozen? ⟨w.heap.size, o, none⟩ = false := fun o => by simp [World.frozen?, B1x.out]
    have l1x : w.heap.size < w1.heap.size := by first | omega | (simp; omega)
    have c1r := fun o => cell_of_row w1 (w.heap.size + 1) o _ 65 (0, 0) B1r.out
    have f1r : ∀ o, w1.frozen? ⟨w.heap.size + 1, o, none⟩ = false := fun o => by simp [World.frozen?, B1r.out]
    have l1r : w.heap.size + 1 < w1.heap.size := by first | omega | (simp; omega)
    have c1q := fun o => cell_of_row w1 (w.heap.size + 1 + 1) o _ 69 (0, 0) B1q.out
    have f1q : ∀ o, w1.frozen? ⟨w.heap.size + 1 + 1, o, none⟩ = false := fun o => by simp [World.frozen?, B1q.out]
    have l1q : w.heap.size + 1 + 1 < w1.heap.size := by first | omega | (simp; omega)
    clear hb1
    go_wp2_with fail
    refine (G2.out _ (by exact HV.out.agree fun b hb hlt => ⟨Below.block (B := w.heap.size) (by ((repeat (first | with_reducible refine Below.setCell ?_ (by first | omega | (simp; done) | (simp; omega)) _ | with_reducible refine Below.drew ?_ | with_reducible refine Below.alloc ?_ (by first | omega | (simp; done) | (simp; omega)) _)); refine Below.trans ?_ (HB1.out.mono (by first | omega | (simp; done) | (simp; omega))); (repeat (first | with_reducible refine Below.setCell ?_ (by first | omega | (simp; done) | (simp; omega)) _ | with_reducible refine Below.drew ?_ | with_reducible refine Below.alloc ?_ (by first | omega | (simp; done) | (simp; omega)) _)); exact Below.refl _ _)) b hlt, hb⟩)).mono ?_
    rintro e w2 h1
    cases hf : filledA v p ⟨#[111, 115]⟩ 64 with
    | error b =>
      rw [hf] at h1
      have hcode : b.1 ≠ 0 := filledA_codes hf
      obtain ⟨c, z⟩ := b
      have HR2 := Lib.hid (show r = .error (c, z) by rw [← HR.out]; unfold platA; unfold nArch nOs; rw [HF1.out]; simp only []; rw [hf])
      have h1' : e = .returned (.tuple #[.string ⟨#[]⟩, .agg #[.int .i64 c, .string z]]) ∧ Below _ _ w2 := h1
      obtain ⟨rfl, hb2⟩ := h1'
      have hc0 : (c != 0) = true := by simpa using hcode
      clear hf hcode h1
      have HB2 := Lib.hid hb2
      have sz2 := hb2.size
      (try simp at sz2)
      have B2x := Lib.hid (show w2.heap[w.heap.size]? = some (.cells #[.int .i64 v.kind, .bool v.tr, .string v.text, .slice A v.list.length ca, .slice B v.names.length cb, .string p, .int .i64 0, .string ⟨#[]⟩] 46 (0, 0)) from (hb2.block (w.heap.size) (by first | omega | (simp; done) | (simp; omega))).trans (by (repeat (first | rw [alloc_before (by first | omega | (simp; done) | (simp; omega))] | rw [Below.heap_setCell _ _ _ _ (by first | (simp only; omega) | (simp; omega))])); exact B1x.out))
      have B2r := Lib.hid (show w2.heap[w.heap.size + 1]? = some (.cells #[.string ⟨#[]⟩, .string ⟨#[]⟩, .string ⟨#[]⟩] 65 (0, 0)) from (hb2.block (w.heap.size + 1) (by first | omega | (simp; done) | (simp; omega))).trans (by (repeat (first | rw [alloc_before (by first | omega | (simp; done) | (simp; omega))] | rw [Below.heap_setCell _ _ _ _ (by first | (simp only; omega) | (simp; omega))])); exact B1r.out))
      have B2q := Lib.hid (show w2.heap[w.heap.size + 1 + 1]? = some (.cells #[.int .i64 0, .string ⟨#[]⟩] 69 (0, 0)) from (hb2.block (w.heap.size + 1 + 1) (by first | omega | (simp; done) | (simp; omega))).trans (by (repeat (first | rw [alloc_before (by first | omega | (simp; done) | (simp; omega))] | rw [Below.heap_setCell _ _ _ _ (by first | (simp only; omega) | (simp; omega))])); exact B1q.out))
      have B2t5 := Lib.hid (show w2.heap[w1.heap.size]? = some (.cells #[.int .i64 0, .string ⟨#[]⟩] 69 (0, 0)) from (hb2.block (w1.heap.size) (by first | omega | (simp; done) | (simp; omega))).trans (by (repeat (first | rw [alloc_before (by first | omega | (simp; done) | (simp; omega))] | rw [Below.heap_setCell _ _ _ _ (by first | (simp only; omega) | (simp; omega))])); exact alloc_at (by simp)))
      have c2x := fun o => cell_of_row w2 (w.heap.size) o _ 46 (0, 0) B2x.out
      have f2x : ∀ o, w2.frozen? ⟨w.heap.size, o, none⟩ = false := fun o => by simp [World.frozen?, B2x.out]
      have l2x : w.heap.size < w2.heap.size := by first | omega | (simp; omega)
      have c2r := fun o => cell_of_row w2 (w.heap.size + 1) o _ 65 (0, 0) B2r.out
      have f2r : ∀ o, w2.frozen? ⟨w.heap.size + 1, o, none⟩ = false := fun o => by simp [World.frozen?, B2r.out]
      have l2r : w.heap.size + 1 < w2.heap.size := by first | omega | (simp; omega)
      have c2q := fun o => cell_of_row w2 (w.heap.size + 1 + 1) o _ 69 (0, 0) B2q.out
      have f2q : ∀ o, w2.frozen? ⟨w.heap.size + 1 + 1, o, none⟩ = false := fun o => by simp [World.frozen?, B2q.out]
      have l2q : w.heap.size + 1 + 1 < w2.heap.size := by first | omega | (simp; omega)
      have c2t5 := fun o => cell_of_row w2 (w1.heap.size) o _ 69 (0, 0) B2t5.out
      have f2t5 : ∀ o, w2.frozen? ⟨w1.heap.size, o, none⟩ = false := fun o => by simp [World.frozen?, B2t5.out]
      have l2t5 : w1.heap.size < w2.heap.size := by first | omega | (simp; omega)
      have nxt5 : ¬ w.heap.size = w1.heap.size := by omega
      have nt5x : ¬ w1.heap.size = w.heap.size := by omega
      have nrt5 : ¬ w.heap.size + 1 = w1.heap.size := by omega
      have nt5r : ¬ w1.heap.size = w.heap.size + 1 := by omega
      have nqt5 : ¬ w.heap.size + 1 + 1 = w1.heap.size := by omega
      have nt5q : ¬ w1.heap.size = w.heap.size + 1 + 1 := by omega
      clear hb2 c1x f1x c1r f1r c1q f1q
      go_wp2_with fail
      go_region
      all_goals
        go_wp2
        refine bodyPost_ret (v := .tuple #[.agg #[.string ⟨#[]⟩, .string ⟨#[]⟩, .string ⟨#[]⟩], .agg #[.int .i64 c, .string z]]) (by simp [results, Tryz.results32, go_sem, c2x, f2x, c2r, f2r, c2q, f2q, c2t5, f2t5, l2x, l2r, l2q, l2t5]) rfl ?_
        refine ⟨by rw [HR2.out]; rfl, ?_⟩
        ((repeat (first | with_reducible refine Below.setCell ?_ (by first | omega | (simp; done) | (simp; omega)) _ | with_reducible refine Below.drew ?_ | with_reducible refine Below.alloc ?_ (by first | omega | (simp; done) | (simp; omega)) _)); refine Below.trans ?_ (HB2.out.mono (by first | omega | (simp; done) | (simp; omega))); (repeat (first | with_reducible refine Below.setCell ?_ (by first | omega | (simp; done) | (simp; omega)) _ | with_reducible refine Below.drew ?_ | with_reducible refine Below.alloc ?_ (by first | omega | (simp; done) | (simp; omega)) _)); refine Below.trans ?_ (HB1.out.mono (by first | omega | (simp; done) | (simp; omega))); (repeat (first | with_reducible refine Below.setCell ?_ (by first | omega | (simp; done) | (simp; omega)) _ | with_reducible refine Below.drew ?_ | with_reducible refine Below.alloc ?_ (by first | omega | (simp; done) | (simp; omega)) _)); exact Below.refl _ _)
    | ok ob =>
      rw [hf] at h1
      have HF2 := Lib.hid hf
      have h1' : e = .returned (.tuple #[.string ob, .agg #[.int .i64 0, .string ⟨#[]⟩]]) ∧ Below _ _ w2 := h1
      obtain ⟨rfl, hb2⟩ := h1'
      clear hf h1
      have HB2 := Lib.hid hb2
      have sz2 := hb2.size
      (try simp at sz2)
      have B2x := Lib.hid (show w2.heap[w.heap.size]? = some (.cells #[.int .i64 v.kind, .bool v.tr, .string v.text, .slice A v.list.length ca, .slice B v.names.length cb, .string p, .int .i64 0, .string ⟨#[]⟩] 46 (0, 0)) from (hb2.block (w.heap.size) (by first | omega | (simp; done) | (simp; omega))).trans (by (repeat (first | rw [alloc_before (by first | omega | (simp; done) | (simp; omega))] | rw [Below.heap_setCell _ _ _ _ (by first | (simp only; omega) | (simp; omega))])); exact B1x.out))
      have B2r := Lib.hid (show w2.heap[w.heap.size + 1]? = some (.cells #[.string ⟨#[]⟩, .string ⟨#[]⟩, .string ⟨#[]⟩] 65 (0, 0)) from (hb2.block (w.heap.size + 1) (by first | omega | (simp; done) | (simp; omega))).trans (by (repeat (first | rw [alloc_before (by first | omega | (simp; done) | (simp; omega))] | rw [Below.heap_setCell _ _ _ _ (by first | (simp only; omega) | (simp; omega))])); exact B1r.out))
      have B2q := Lib.hid (show w2.heap[w.heap.size + 1 + 1]? = some (.cells #[.int .i64 0, .string ⟨#[]⟩] 69 (0, 0)) from (hb2.block (w.heap.size + 1 + 1) (by first | omega | (simp; done) | (simp; omega))).trans (by (repeat (first | rw [alloc_before (by first | omega | (simp; done) | (simp; omega))] | rw [Below.heap_setCell _ _ _ _ (by first | (simp only; omega) | (simp; omega))])); exact B1q.out))
      have B2t5 := Lib.hid (show w2.heap[w1.heap.size]? = some (.cells #[.int .i64 0, .string ⟨#[]⟩] 69 (0, 0)) from (hb2.block (w1.heap.size) (by first | omega | (simp; done) | (simp; omega))).trans (by (repeat (first | rw [alloc_before (by first | omega | (simp; done) | (simp; omega))] | rw [Below.heap_setCell _ _ _ _ (by first | (simp only; omega) | (simp; omega))])); exact alloc_at (by simp)))
      have c2x := fun o => cell_of_row w2 (w.heap.size) o _ 46 (0, 0) B2x.out
      have f2x : ∀ o, w2.frozen? ⟨w.heap.size, o, none⟩ = false := fun o => by simp [World.frozen?, B2x.out]
      have l2x : w.heap.size < w2.heap.size := by first | omega | (simp; omega)
      have c2r := fun o => cell_of_row w2 (w.heap.size + 1) o _ 65 (0, 0) B2r.out
      have f2r : ∀ o, w2.frozen? ⟨w.heap.size + 1, o, none⟩ = false := fun o => by simp [World.frozen?, B2r.out]
      have l2r : w.heap.size + 1 < w2.heap.size := by first | omega | (simp; omega)
      have c2q := fun o => cell_of_row w2 (w.heap.size + 1 + 1) o _ 69 (0, 0) B2q.out
      have f2q : ∀ o, w2.frozen? ⟨w.heap.size + 1 + 1, o, none⟩ = false := fun o => by simp [World.frozen?, B2q.out]
      have l2q : w.heap.size + 1 + 1 < w2.heap.size := by first | omega | (simp; omega)
      have c2t5 := fun o => cell_of_row w2 (w1.heap.size) o _ 69 (0, 0) B2t5.out
      have f2t5 : ∀ o, w2.frozen? ⟨w1.heap.size, o, none⟩ = false := fun o => by simp [World.frozen?, B2t5.out]
      have l2t5 : w1.heap.size < w2.heap.size := by first | omega | (simp; omega)
      have nxt5 : ¬ w.heap.size = w1.heap.size := by omega
      have nt5x : ¬ w1.heap.size = w.heap.size := by omega
      have nrt5 : ¬ w.heap.size + 1 = w1.heap.size := by omega
      have nt5r : ¬ w1.heap.size = w.heap.size + 1 := by omega
      have nqt5 : ¬ w.heap.size + 1 + 1 = w1.heap.size := by omega
      have nt5q : ¬ w1.heap.size = w.heap.size + 1 + 1 := by omega
      clear hb2 c1x f1x c1r f1r c1q f1q
      go_wp2_with fail
      refine (G3.out _ (by exact HV.out.agree fun b hb hlt => ⟨Below.block (B := w.heap.size) (by ((repeat (first | with_reducible refine Below.setCell ?_ (by first | omega | (simp; done) | (simp; omega)) _ | with_reducible refine Below.drew ?_ | with_reducible refine Below.alloc ?_ (by first | omega | (simp; done) | (simp; omega)) _)); refine Below.trans ?_ (HB2.out.mono (by first | omega | (simp; done) | (simp; omega))); (repeat (first | with_reducible refine Below.setCell ?_ (by first | omega | (simp; done) | (simp; omega)) _ | with_reducible refine Below.drew ?_ | with_reducible refine Below.alloc ?_ (by first | omega | (simp; done) | (simp; omega)) _)); refine Below.trans ?_ (HB1.out.mono (by first | omega | (simp; done) | (simp; omega))); (repeat (first | with_reducible refine Below.setCell ?_ (by first | omega | (simp; done) | (simp; omega)) _ | with_reducible refine Below.drew ?_ | with_reducible refine Below.alloc ?_ (by first | omega | (simp; done) | (simp; omega)) _)); exact Below.refl _ _)) b hlt, hb⟩) HK.out).mono ?_
      rintro e w3 h1
      cases hf : perhapsA v p ⟨#[118, 97, 114, 105, 97, 110, 116]⟩ 64 with
      | error b =>
        rw [hf] at h1
        have hcode : b.1 ≠ 0 := perhapsA_codes hf
        obtain ⟨c, z⟩ := b
        have HR2 := Lib.hid (show r = .error (c, z) by rw [← HR.out]; unfold platA; rw [varA_eq]; unfold nArch nOs nVar; rw [HF1.out]; simp only []; rw [HF2.out]; simp only []; rw [hf])
        have h1' : e = .returned (.tuple #[.string ⟨#[]⟩, .agg #[.int .i64 c, .string z]]) ∧ Below _ _ w3 := h1
        obtain ⟨rfl, hb3⟩ := h1'
        have hc0 : (c != 0) = true := by simpa using hcode
        clear hf hcode h1
        have HB3 := Lib.hid hb3
        have sz3 := hb3.size
        (try simp at sz3)
        have B3x := Lib.hid (show w3.heap[w.heap.size]? = some (.cells #[.int .i64 v.kind, .bool v.tr, .string v.text, .slice A v.list.length ca, .slice B v.names.length cb, .string p, .int .i64 0, .string ⟨#[]⟩] 46 (0, 0)) from (hb3.block (w.heap.size) (by first | omega | (simp; done) | (simp; omega))).trans (by (repeat (first | rw [alloc_before (by first | omega | (simp; done) | (simp; omega))] | rw [Below.heap_setCell _ _ _ _ (by first | (simp only; omega) | (simp; omega))])); exact B2x.out))
        have B3r := Lib.hid (show w3.heap[w.heap.size + 1]? = some (.cells #[.string ⟨#[]⟩, .string ⟨#[]⟩, .string ⟨#[]⟩] 65 (0, 0)) from (hb3.block (w.heap.size + 1) (by first | omega | (simp; done) | (simp; omega))).trans (by (repeat (first | rw [alloc_before (by first | omega | (simp; done) | (simp; omega))] | rw [Below.heap_setCell _ _ _ _ (by first | (simp only; omega) | (simp; omega))])); exact B2r.out))
        have B3q := Lib.hid (show w3.heap[w.heap.size + 1 + 1]? = some (.cells #[.int .i64 0, .string ⟨#[]⟩] 69 (0, 0)) from (hb3.block (w.heap.size + 1 + 1) (by first | omega | (simp; done) | (simp; omega))).trans (by (repeat (first | rw [alloc_before (by first | omega | (simp; done) | (simp; omega))] | rw [Below.heap_setCell _ _ _ _ (by first | (simp only; omega) | (simp; omega))])); exact B2q.out))
        have B3t5 := Lib.hid (show w3.heap[w1.heap.size]? = some (.cells #[.int .i64 0, .string ⟨#[]⟩] 69 (0, 0)) from (hb3.block (w1.heap.size) (by first | omega | (simp; done) | (simp; omega))).trans (by (repeat (first | rw [alloc_before (by first | omega | (simp; done) | (simp; omega))] | rw [Below.heap_setCell _ _ _ _ (by first | (simp only; omega) | (simp; omega))])); refine (blk_set (cs := #[.int .i64 0, .string ⟨#[]⟩]) ?_ _ _).trans rfl; (repeat (first | rw [alloc_before (by first | omega | (simp; done) | (simp; omega))] | rw [Below.heap_setCell _ _ _ _ (by first | (simp only; omega) | (simp; omega))])); refine (blk_set (cs := #[.int .i64 0, .string ⟨#[]⟩]) ?_ _ _).trans rfl; (repeat (first | rw [alloc_before (by first | omega | (simp; done) | (simp; omega))] | rw [Below.heap_setCell _ _ _ _ (by first | (simp only; omega) | (simp; omega))])); exact B2t5.out))
        have c3x := fun o => cell_of_row w3 (w.heap.size) o _ 46 (0, 0) B3x.out
        have f3x : ∀ o, w3.frozen? ⟨w.heap.size, o, none⟩ = false := fun o => by simp [World.frozen?, B3x.out]
        have l3x : w.heap.size < w3.heap.size := by first | omega | (simp; omega)
        have c3r := fun o => cell_of_row w3 (w.heap.size + 1) o _ 65 (0, 0) B3r.out
        have f3r : ∀ o, w3.frozen? ⟨w.heap.size + 1, o, none⟩ = false := fun o => by simp [World.frozen?, B3r.out]
        have l3r : w.heap.size + 1 < w3.heap.size := by first | omega | (simp; omega)
        have c3q := fun o => cell_of_row w3 (w.heap.size + 1 + 1) o _ 69 (0, 0) B3q.out
        have f3q : ∀ o, w3.frozen? ⟨w.heap.size + 1 + 1, o, none⟩ = false := fun o => by simp [World.frozen?, B3q.out]
        have l3q : w.heap.size + 1 + 1 < w3.heap.size := by first | omega | (simp; omega)
        have c3t5 := fun o => cell_of_row w3 (w1.heap.size) o _ 69 (0, 0) B3t5.out
        have f3t5 : ∀ o, w3.frozen? ⟨w1.heap.size, o, none⟩ = false := fun o => by simp [World.frozen?, B3t5.out]
        have l3t5 : w1.heap.size < w3.heap.size := by first | omega | (simp; omega)
        clear hb3 c2x f2x c2r f2r c2q f2q c2t5 f2t5
        go_wp2_with fail
        go_region
        all_goals
          go_wp2
          refine bodyPost_ret (v := .tuple #[.agg #[.string ⟨#[]⟩, .string ⟨#[]⟩, .string ⟨#[]⟩], .agg #[.int .i64 c, .string z]]) (by simp [results, Tryz.results32, go_sem, c3x, f3x, c3r, f3r, c3q, f3q, c3t5, f3t5, l3x, l3r, l3q, l3t5]) rfl ?_
          refine ⟨by rw [HR2.out]; rfl, ?_⟩
          ((repeat (first | with_reducible refine Below.setCell ?_ (by first | omega | (simp; done) | (simp; omega)) _ | with_reducible refine Below.drew ?_ | with_reducible refine Below.alloc ?_ (by first | omega | (simp; done) | (simp; omega)) _)); refine Below.trans ?_ (HB3.out.mono (by first | omega | (simp; done) | (simp; omega))); (repeat (first | with_reducible refine Below.setCell ?_ (by first | omega | (simp; done) | (simp; omega)) _ | with_reducible refine Below.drew ?_ | with_reducible refine Below.alloc ?_ (by first | omega | (simp; done) | (simp; omega)) _)); refine Below.trans ?_ (HB2.out.mono (by first | omega | (simp; done) | (simp; omega))); (repeat (first | with_reducible refine Below.setCell ?_ (by first | omega | (simp; done) | (simp; omega)) _ | with_reducible refine Below.drew ?_ | with_reducible refine Below.alloc ?_ (by first | omega | (simp; done) | (simp; omega)) _)); refine Below.trans ?_ (HB1.out.mono (by first | omega | (simp; done) | (simp; omega))); (repeat (first | with_reducible refine Below.setCell ?_ (by first | omega | (simp; done) | (simp; omega)) _ | with_reducible refine Below.drew ?_ | with_reducible refine Below.alloc ?_ (by first | omega | (simp; done) | (simp; omega)) _)); exact Below.refl _ _)
      | ok x =>
        rw [hf] at h1
        have HF3 := Lib.hid hf
        have h1' : e = .returned (.tuple #[.string x, .agg #[.int .i64 0, .string ⟨#[]⟩]]) ∧ Below _ _ w3 := h1
        obtain ⟨rfl, hb3⟩ := h1'
        clear hf h1
        have HB3 := Lib.hid hb3
        have sz3 := hb3.size
        (try simp at sz3)
        have B3x := Lib.hid (show w3.heap[w.heap.size]? = some (.cells #[.int .i64 v.kind, .bool v.tr, .string v.text, .slice A v.list.length ca, .slice B v.names.length cb, .string p, .int .i64 0, .string ⟨#[]⟩] 46 (0, 0)) from (hb3.block (w.heap.size) (by first | omega | (simp; done) | (simp; omega))).trans (by (repeat (first | rw [alloc_before (by first | omega | (simp; done) | (simp; omega))] | rw [Below.heap_setCell _ _ _ _ (by first | (simp only; omega) | (simp; omega))])); exact B2x.out))
        have B3r := Lib.hid (show w3.heap[w.heap.size + 1]? = some (.cells #[.string ⟨#[]⟩, .string ⟨#[]⟩, .string ⟨#[]⟩] 65 (0, 0)) from (hb3.block (w.heap.size + 1) (by first | omega | (simp; done) | (simp; omega))).trans (by (repeat (first | rw [alloc_before (by first | omega | (simp; done) | (simp; omega))] | rw [Below.heap_setCell _ _ _ _ (by first | (simp only; omega) | (simp; omega))])); exact B2r.out))
        have B3q := Lib.hid (show w3.heap[w.heap.size + 1 + 1]? = some (.cells #[.int .i64 0, .string ⟨#[]⟩] 69 (0, 0)) from (hb3.block (w.heap.size + 1 + 1) (by first | omega | (simp; done) | (simp; omega))).trans (by (repeat (first | rw [alloc_before (by first | omega | (simp; done) | (simp; omega))] | rw [Below.heap_setCell _ _ _ _ (by first | (simp only; omega) | (simp; omega))])); exact B2q.out))
        have B3t5 := Lib.hid (show w3.heap[w1.heap.size]? = some (.cells #[.int .i64 0, .string ⟨#[]⟩] 69 (0, 0)) from (hb3.block (w1.heap.size) (by first | omega | (simp; done) | (simp; omega))).trans (by (repeat (first | rw [alloc_before (by first | omega | (simp; done) | (simp; omega))] | rw [Below.heap_setCell _ _ _ _ (by first | (simp only; omega) | (simp; omega))])); refine (blk_set (cs := #[.int .i64 0, .string ⟨#[]⟩]) ?_ _ _).trans rfl; (repeat (first | rw [alloc_before (by first | omega | (simp; done) | (simp; omega))] | rw [Below.heap_setCell _ _ _ _ (by first | (simp only; omega) | (simp; omega))])); refine (blk_set (cs := #[.int .i64 0, .string ⟨#[]⟩]) ?_ _ _).trans rfl; (repeat (first | rw [alloc_before (by first | omega | (simp; done) | (simp; omega))] | rw [Below.heap_setCell _ _ _ _ (by first | (simp only; omega) | (simp; omega))])); exact B2t5.out))
        have c3x := fun o => cell_of_row w3 (w.heap.size) o _ 46 (0, 0) B3x.out
        have f3x : ∀ o, w3.frozen? ⟨w.heap.size, o, none⟩ = false := fun o => by simp [World.frozen?, B3x.out]
        have l3x : w.heap.size < w3.heap.size := by first | omega | (simp; omega)
        have c3r := fun o => cell_of_row w3 (w.heap.size + 1) o _ 65 (0, 0) B3r.out
        have f3r : ∀ o, w3.frozen? ⟨w.heap.size + 1, o, none⟩ = false := fun o => by simp [World.frozen?, B3r.out]
        have l3r : w.heap.size + 1 < w3.heap.size := by first | omega | (simp; omega)
        have c3q := fun o => cell_of_row w3 (w.heap.size + 1 + 1) o _ 69 (0, 0) B3q.out
        have f3q : ∀ o, w3.frozen? ⟨w.heap.size + 1 + 1, o, none⟩ = false := fun o => by simp [World.frozen?, B3q.out]
        have l3q : w.heap.size + 1 + 1 < w3.heap.size := by first | omega | (simp; omega)
        have c3t5 := fun o => cell_of_row w3 (w1.heap.size) o _ 69 (0, 0) B3t5.out
        have f3t5 : ∀ o, w3.frozen? ⟨w1.heap.size, o, none⟩ = false := fun o => by simp [World.frozen?, B3t5.out]
        have l3t5 : w1.heap.size < w3.heap.size := by first | omega | (simp; omega)
        clear hb3 c2x f2x c2r f2r c2q f2q c2t5 f2t5
        have HR2 := Lib.hid (show r = .ok (a, ob, x) by rw [← HR.out]; unfold platA; rw [varA_eq]; unfold nArch nOs nVar; rw [HF1.out]; simp only []; rw [HF2.out]; simp only []; rw [HF3.out])
        go_wp2
        refine bodyPost_ret (v := .tuple #[.agg #[.string a, .string ob, .string x], .agg #[.int .i64 0, .string ⟨#[]⟩]]) (by simp [results, Tryz.results32, go_sem, c3x, f3x, c3r, f3r, c3q, f3q, c3t5, f3t5, l3x, l3r, l3q, l3t5]) rfl ?_
        refine ⟨by rw [HR2.out]; rfl, ?_⟩
        ((repeat (first | with_reducible refine Below.setCell ?_ (by first | omega | (simp; done) | (simp; omega)) _ | with_reducible refine Below.drew ?_ | with_reducible refine Below.alloc ?_ (by first | omega | (simp; done) | (simp; omega)) _)); refine Below.trans ?_ (HB3.out.mono (by first | omega | (simp; done) | (simp; omega))); (repeat (first | with_reducible refine Below.setCell ?_ (by first | omega | (simp; done) | (simp; omega)) _ | with_reducible refine Below.drew ?_ | with_reducible refine Below.alloc ?_ (by first | omega | (simp; done) | (simp; omega)) _)); refine Below.trans ?_ (HB2.out.mono (by first | omega | (simp; done) | (simp; omega))); (repeat (first | with_reducible refine Below.setCell ?_ (by first | omega | (simp; done) | (simp; omega)) _ | with_reducible refine Below.drew ?_ | with_reducible refine Below.alloc ?_ (by first | omega | (simp; done) | (simp; omega)) _)); refine Below.trans ?_ (HB1.out.mono (by first | omega | (simp; done) | (simp; omega))); (repeat (first | with_reducible refine Below.setCell ?_ (by first | omega | (simp; done) | (simp; omega)) _ | with_reducible refine Below.drew ?_ | with_reducible refine Below.alloc ?_ (by first | omega | (simp; done) | (simp; omega)) _)); exact Below.refl _ _)

end Go.Proofs.YtoimjnmhinfbkaaGreatDoor
