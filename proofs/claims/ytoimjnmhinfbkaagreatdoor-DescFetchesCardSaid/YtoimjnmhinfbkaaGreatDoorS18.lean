import Derived.Test.YtoimjnmhinfbkaaGreatDoorS04
namespace Go.Proofs.YtoimjnmhinfbkaaGreatDoor
open Go.RowKit
set_option maxRecDepth 100000
theorem plat_any (v : V) (cs : List Value) (p : ByteArray) (w : World) (S : Nat → Prop) (hv : v.Rep w S cs) (hb : v.bulk ≤ 4194304) (hp : p.size ≤ 1000000) :
  Calls Tryz.prog 31 #[.agg (cs ++ [Value.string p]).toArray] w (AnsL w IsPlat (platA v p)) := by
 cases h1 : filledA v p nArch 64 with
 | error b =>
  obtain ⟨c, q⟩ := b
  exact (plat_bad1 v cs p w S hv hb hp c q h1).mono fun e w' h => AnsL.bad c q (by unfold platA; rw [h1]) h
 | ok a =>
  cases h2 : filledA v p nOs 64 with
  | error b =>
   obtain ⟨c, q⟩ := b
   exact (plat_bad2 v cs p w S hv hb hp a h1 c q h2).mono fun e w' h => AnsL.bad c q (by unfold platA; rw [h1]; simp only []; rw [h2]) h
  | ok o => exact plat_good v cs p w S hv hb hp a h1 o h2
theorem lmaybe_any (v : V) (cs : List Value) (p name : ByteArray) (w : World) (S : Nat → Prop) (hv : v.Rep w S cs) (hb : v.bulk ≤ 4194304) (hk : v.kind = 5) (hp : p.size ≤ 1073741824) (hn : name.size ≤ 1073741824) :
  Calls Tryz.prog 57 #[.agg (cs ++ [Value.string p]).toArray, .string name] w fun e w' => (match v.maybe name with
   | none => e = .returned (.tuple #[.agg #[.int .i64 0, .bool false, .string ⟨#[]⟩, .slice none 0 0, .slice none 0 0, .string ⟨#[]⟩], .bool false])
   | some u => ∃ cs', e = .returned (.tuple #[.agg (cs' ++ [Value.string (fieldPlace p name)]).toArray, .bool true]) ∧ u.Rep w' (fun b => w.heap.size ≤ b ∧ b < w'.heap.size) cs') ∧ Below w.heap.size w w' := by
 cases h : v.maybe name with
 | none => exact maybe_none v cs p name w S hv hb hk hp hn h
 | some u => exact (maybe_some v u cs p name w S hv hb hk hp hn h).mono fun e w' ⟨cs', he, hr, hb⟩ => ⟨⟨cs', he, hr⟩, hb⟩
def IsDesc (r : DescT) (_ : World) (val : Value) : Prop := val = descV r
set_option maxHeartbeats 8000000 in
theorem take_any (v : V) (cs : List Value) (p : ByteArray) (w : World) (S : Nat → Prop) (hg : Glob w) (hv : v.Rep w S cs) (hb : v.bulk ≤ 4194304) (hp : p.size ≤ 900000) :
  Calls Tryz.prog 29 #[.agg (cs ++ [Value.string p]).toArray] w (AnsL w IsDesc (takeA v p)) := by
 generalize hr : takeA v p = r
 have HR := Lib.hid hr
 have HV := Lib.hid hv
 have HG := Lib.hid hg
 have H1 := fun W hW => filled_any v cs p ⟨#[109, 101, 100, 105, 97, 84, 121, 112, 101]⟩ 255 W S hW hb (by omega) (by decide)
 have H2 := fun W hW => lfield_any v cs p ⟨#[100, 105, 103, 101, 115, 116]⟩ W S hW hb (by omega) (by decide)
 have H3 := fun W hW => lfield_any v cs p ⟨#[115, 105, 122, 101]⟩ W S hW hb (by omega) (by decide)
 have H4 := fun W hW hk => lmaybe_any v cs p ⟨#[112, 108, 97, 116, 102, 111, 114, 109]⟩ W S hW hb hk (by omega) (by decide)
 obtain ⟨A, ca, B, cb, rfl, -⟩ := hv.open
 simp only [List.cons_append, List.nil_append] at H1 H2 H3 H4 ⊢
 have G1 := Lib.hid H1
 have G2 := Lib.hid H2
 have G3 := Lib.hid H3
 have G4 := Lib.hid H4
 have HP := Lib.hid hp
 clear hr hv hg H1 H2 H3 H4
 go_enter Tryz.func29, Tryz.ntmps29
 go_wp2_with fail
 refine (G1.out _ (by exact HV.out.agree fun b hb hlt => ⟨Below.block (B := w.heap.size) (by ((repeat (first | with_reducible refine Below.setCell ?_ (by first | omega | (simp; done) | (simp; omega)) _ | with_reducible refine Below.drew ?_ | with_reducible refine Below.alloc ?_ (by first | omega | (simp; done) | (simp; omega)) _)); exact Below.refl _ _)) b hlt, hb⟩)).mono ?_
 rintro e w1 h1
 cases hf : filledA v p ⟨#[109, 101, 100, 105, 97, 84, 121, 112, 101]⟩ 255 with
 | error b =>
  rw [hf] at h1
  obtain ⟨c, z⟩ := b
  have HR2 := Lib.hid (show r = .error (c, z) by rw [← HR.out]; unfold takeA; unfold nMedia; rw [hf])
  obtain ⟨g, rfl, hth⟩ := h1
  clear hf
  go_wp2
  exact ⟨rfl, AnsL.bad c z HR2.out (Threw.of ⟨g, rfl, hth⟩ (by ((repeat (first | with_reducible refine Below.setCell ?_ (by first | omega | (simp; done) | (simp; omega)) _ | with_reducible refine Below.drew ?_ | with_reducible refine Below.alloc ?_ (by first | omega | (simp; done) | (simp; omega)) _)); exact Below.refl _ _)))⟩
 | ok s =>
  rw [hf] at h1
  have HF1 := Lib.hid hf
  have HK := Lib.hid (filledA_kind hf)
  obtain ⟨val, rfl, rfl, hb1⟩ := h1
  clear hf
  have HB1 := Lib.hid hb1
  have sz1 := hb1.size
  (try simp at sz1)
  have B1x := Lib.hid (show w1.heap[w.heap.size]? = some (.cells #[.int .i64 v.kind, .bool v.tr, .string v.text, .slice A v.list.length ca, .slice B v.names.length cb, .string p] 32 (0, 0)) from (hb1.block (w.heap.size) (by first | omega | (simp; done) | (simp; omega))).trans (by (repeat (first | rw [alloc_before (by first | omega | (simp; done) | (simp; omega))] | rw [Below.heap_setCell _ _ _ _ (by first | (simp only; omega) | (simp; omega))])); exact alloc_at (by simp)))
  have B1r := Lib.hid (show w1.heap[w.heap.size + 1]? = some (.cells #[.string ⟨#[]⟩, .string ⟨#[]⟩, .int .i64 0, .string ⟨#[]⟩, .string ⟨#[]⟩, .string ⟨#[]⟩] 62 (0, 0)) from (hb1.block (w.heap.size + 1) (by first | omega | (simp; done) | (simp; omega))).trans (by (repeat (first | rw [alloc_before (by first | omega | (simp; done) | (simp; omega))] | rw [Below.heap_setCell _ _ _ _ (by first | (simp only; omega) | (simp; omega))])); exact alloc_at (by simp)))
  have c1x := fun o => cell_of_row w1 (w.heap.size) o _ 32 (0, 0) B1x.out
  have f1x : ∀ o, w1.frozen? ⟨w.heap.size, o, none⟩ = false := fun o => by simp [World.frozen?, B1x.out]
  have l1x : w.heap.size < w1.heap.size := by first | omega | (simp; omega)
  have c1r := fun o => cell_of_row w1 (w.heap.size + 1) o _ 62 (0, 0) B1r.out
  have f1r : ∀ o, w1.frozen? ⟨w.heap.size + 1, o, none⟩ = false := fun o => by simp [World.frozen?, B1r.out]
  have l1r : w.heap.size + 1 < w1.heap.size := by first | omega | (simp; omega)
  clear hb1
  go_wp2_with fail
  refine (G2.out _ (by exact HV.out.agree fun b hb hlt => ⟨Below.block (B := w.heap.size) (by ((repeat (first | with_reducible refine Below.setCell ?_ (by first | omega | (simp; done) | (simp; omega)) _ | with_reducible refine Below.drew ?_ | with_reducible refine Below.alloc ?_ (by first | omega | (simp; done) | (simp; omega)) _)); refine Below.trans ?_ (HB1.out.mono (by first | omega | (simp; done) | (simp; omega))); (repeat (first | with_reducible refine Below.setCell ?_ (by first | omega | (simp; done) | (simp; omega)) _ | with_reducible refine Below.drew ?_ | with_reducible refine Below.alloc ?_ (by first | omega | (simp; done) | (simp; omega)) _)); exact Below.refl _ _)) b hlt, hb⟩)).mono ?_
  rintro e w2 h1
  cases hf : fieldA v p ⟨#[100, 105, 103, 101, 115, 116]⟩ with
  | error b =>
   rw [hf] at h1
   obtain ⟨c, z⟩ := b
   have HR2 := Lib.hid (show r = .error (c, z) by rw [← HR.out]; unfold takeA; unfold nMedia; rw [HF1.out]; simp only []; unfold digA nDig; rw [hf])
   obtain ⟨g, rfl, hth⟩ := h1
   clear hf
   go_wp2
   exact ⟨rfl, AnsL.bad c z HR2.out (Threw.of ⟨g, rfl, hth⟩ (by ((repeat (first | with_reducible refine Below.setCell ?_ (by first | omega | (simp; done) | (simp; omega)) _ | with_reducible refine Below.drew ?_ | with_reducible refine Below.alloc ?_ (by first | omega | (simp; done) | (simp; omega)) _)); refine Below.trans ?_ (HB1.out.mono (by first | omega | (simp; done) | (simp; omega))); (repeat (first | with_reducible refine Below.setCell ?_ (by first | omega | (simp; done) | (simp; omega)) _ | with_reducible refine Below.drew ?_ | with_reducible refine Below.alloc ?_ (by first | omega | (simp; done) | (simp; omega)) _)); exact Below.refl _ _)))⟩
  | ok u =>
   rw [hf] at h1
   have hub : u.bulk ≤ 4194304 := by have := V.get_bulk (fieldA_ok hf).2; omega
   have HF2 := Lib.hid hf
   obtain ⟨val, rfl, ⟨cs1, rfl, hrep1⟩, hb2⟩ := h1
   obtain ⟨A1, ca1, B1, cb1, rfl, -⟩ := hrep1.open
   simp only [List.cons_append, List.nil_append]
   clear hf hrep1
   have HB2 := Lib.hid hb2
   have sz2 := hb2.size
   (try simp at sz2)
   have B2x := Lib.hid (show w2.heap[w.heap.size]? = some (.cells #[.int .i64 v.kind, .bool v.tr, .string v.text, .slice A v.list.length ca, .slice B v.names.length cb, .string p] 32 (0, 0)) from (hb2.block (w.heap.size) (by first | omega | (simp; done) | (simp; omega))).trans (by (repeat (first | rw [alloc_before (by first | omega | (simp; done) | (simp; omega))] | rw [Below.heap_setCell _ _ _ _ (by first | (simp only; omega) | (simp; omega))])); exact B1x.out))
   have B2r := Lib.hid (show w2.heap[w.heap.size + 1]? = some (.cells #[.string ⟨#[]⟩, .string ⟨#[]⟩, .int .i64 0, .string ⟨#[]⟩, .string ⟨#[]⟩, .string ⟨#[]⟩] 62 (0, 0)) from (hb2.block (w.heap.size + 1) (by first | omega | (simp; done) | (simp; omega))).trans (by (repeat (first | rw [alloc_before (by first | omega | (simp; done) | (simp; omega))] | rw [Below.heap_setCell _ _ _ _ (by first | (simp only; omega) | (simp; omega))])); exact B1r.out))
   have B2d := Lib.hid (show w2.heap[w1.heap.size]? = some (.cells #[.string s, .string ⟨#[]⟩, .int .i64 0, .string ⟨#[]⟩, .string ⟨#[]⟩, .string ⟨#[]⟩] 62 (0, 0)) from (hb2.block (w1.heap.size) (by first | omega | (simp; done) | (simp; omega))).trans (by (repeat (first | rw [alloc_before (by first | omega | (simp; done) | (simp; omega))] | rw [Below.heap_setCell _ _ _ _ (by first | (simp only; omega) | (simp; omega))])); exact alloc_at (by simp)))
   have c2x := fun o => cell_of_row w2 (w.heap.size) o _ 32 (0, 0) B2x.out
   have f2x : ∀ o, w2.frozen? ⟨w.heap.size, o, none⟩ = false := fun o => by simp [World.frozen?, B2x.out]
   have l2x : w.heap.size < w2.heap.size := by first | omega | (simp; omega)
   have c2r := fun o => cell_of_row w2 (w.heap.size + 1) o _ 62 (0, 0) B2r.out
   have f2r : ∀ o, w2.frozen? ⟨w.heap.size + 1, o, none⟩ = false := fun o => by simp [World.frozen?, B2r.out]
   have l2r : w.heap.size + 1 < w2.heap.size := by first | omega | (simp; omega)
   have c2d := fun o => cell_of_row w2 (w1.heap.size) o _ 62 (0, 0) B2d.out
   have f2d : ∀ o, w2.frozen? ⟨w1.heap.size, o, none⟩ = false := fun o => by simp [World.frozen?, B2d.out]
   have l2d : w1.heap.size < w2.heap.size := by first | omega | (simp; omega)
   have nxd : ¬ w.heap.size = w1.heap.size := by omega
   have ndx : ¬ w1.heap.size = w.heap.size := by omega
   have nrd : ¬ w.heap.size + 1 = w1.heap.size := by omega
   have ndr : ¬ w1.heap.size = w.heap.size + 1 := by omega
   clear hb2 c1x f1x c1r f1r
   go_wp2_with fail
   refine (ltext_any u A1 _ ca1 B1 _ cb1 (fieldPlace p ⟨#[100, 105, 103, 101, 115, 116]⟩) 255 _ hub).mono ?_
   rintro e w3 h1
   cases hf : textA u (fieldPlace p ⟨#[100, 105, 103, 101, 115, 116]⟩) 255 with
   | error b =>
    rw [hf] at h1
    obtain ⟨c, z⟩ := b
    have HR2 := Lib.hid (show r = .error (c, z) by rw [← HR.out]; unfold takeA; unfold nMedia; rw [HF1.out]; simp only []; unfold digA nDig; rw [HF2.out]; simp only []; rw [hf])
    obtain ⟨g, rfl, hth⟩ := h1
    clear hf
    go_wp2
    exact ⟨rfl, AnsL.bad c z HR2.out (Threw.of ⟨g, rfl, hth⟩ (by ((repeat (first | with_reducible refine Below.setCell ?_ (by first | omega | (simp; done) | (simp; omega)) _ | with_reducible refine Below.drew ?_ | with_reducible refine Below.alloc ?_ (by first | omega | (simp; done) | (simp; omega)) _)); refine Below.trans ?_ (HB2.out.mono (by first | omega | (simp; done) | (simp; omega))); (repeat (first | with_reducible refine Below.setCell ?_ (by first | omega | (simp; done) | (simp; omega)) _ | with_reducible refine Below.drew ?_ | with_reducible refine Below.alloc ?_ (by first | omega | (simp; done) | (simp; omega)) _)); refine Below.trans ?_ (HB1.out.mono (by first | omega | (simp; done) | (simp; omega))); (repeat (first | with_reducible refine Below.setCell ?_ (by first | omega | (simp; done) | (simp; omega)) _ | with_reducible refine Below.drew ?_ | with_reducible refine Below.alloc ?_ (by first | omega | (simp; done) | (simp; omega)) _)); exact Below.refl _ _)))⟩
   | ok dg =>
    rw [hf] at h1
    have hdl : dg.size ≤ 1073741824 := by rw [textA_size hf]; have := u.text_bulk; omega
    have HF3 := Lib.hid hf
    obtain ⟨val, rfl, rfl, hb3⟩ := h1
    clear hf
    have HB3 := Lib.hid hb3
    have sz3 := hb3.size
    (try simp at sz3)
    have B3x := Lib.hid (show w3.heap[w.heap.size]? = some (.cells #[.int .i64 v.kind, .bool v.tr, .string v.text, .slice A v.list.length ca, .slice B v.names.length cb, .string p] 32 (0, 0)) from (hb3.block (w.heap.size) (by first | omega | (simp; done) | (simp; omega))).trans (by (repeat (first | rw [alloc_before (by first | omega | (simp; done) | (simp; omega))] | rw [Below.heap_setCell _ _ _ _ (by first | (simp only; omega) | (simp; omega))])); exact B2x.out))
    have B3r := Lib.hid (show w3.heap[w.heap.size + 1]? = some (.cells #[.string ⟨#[]⟩, .string ⟨#[]⟩, .int .i64 0, .string ⟨#[]⟩, .string ⟨#[]⟩, .string ⟨#[]⟩] 62 (0, 0)) from (hb3.block (w.heap.size + 1) (by first | omega | (simp; done) | (simp; omega))).trans (by (repeat (first | rw [alloc_before (by first | omega | (simp; done) | (simp; omega))] | rw [Below.heap_setCell _ _ _ _ (by first | (simp only; omega) | (simp; omega))])); exact B2r.out))
    have B3d := Lib.hid (show w3.heap[w1.heap.size]? = some (.cells #[.string s, .string ⟨#[]⟩, .int .i64 0, .string ⟨#[]⟩, .string ⟨#[]⟩, .string ⟨#[]⟩] 62 (0, 0)) from (hb3.block (w1.heap.size) (by first | omega | (simp; done) | (simp; omega))).trans (by (repeat (first | rw [alloc_before (by first | omega | (simp; done) | (simp; omega))] | rw [Below.heap_setCell _ _ _ _ (by first | (simp only; omega) | (simp; omega))])); exact B2d.out))
    have B3t4 := Lib.hid (show w3.heap[w2.heap.size]? = some (.cells #[.int .i64 u.kind, .bool u.tr, .string u.text, .slice A1 u.list.length ca1, .slice B1 u.names.length cb1, .string (fieldPlace p ⟨#[100, 105, 103, 101, 115, 116]⟩)] 32 (0, 0)) from (hb3.block (w2.heap.size) (by first | omega | (simp; done) | (simp; omega))).trans (by (repeat (first | rw [alloc_before (by first | omega | (simp; done) | (simp; omega))] | rw [Below.heap_setCell _ _ _ _ (by first | (simp only; omega) | (simp; omega))])); exact alloc_at (by simp)))
    have c3x := fun o => cell_of_row w3 (w.heap.size) o _ 32 (0, 0) B3x.out
    have f3x : ∀ o, w3.frozen? ⟨w.heap.size, o, none⟩ = false := fun o => by simp [World.frozen?, B3x.out]
    have l3x : w.heap.size < w3.heap.size := by first | omega | (simp; omega)
    have c3r := fun o => cell_of_row w3 (w.heap.size + 1) o _ 62 (0, 0) B3r.out
    have f3r : ∀ o, w3.frozen? ⟨w.heap.size + 1, o, none⟩ = false := fun o => by simp [World.frozen?, B3r.out]
    have l3r : w.heap.size + 1 < w3.heap.size := by first | omega | (simp; omega)
    have c3d := fun o => cell_of_row w3 (w1.heap.size) o _ 62 (0, 0) B3d.out
    have f3d : ∀ o, w3.frozen? ⟨w1.heap.size, o, none⟩ = false := fun o => by simp [World.frozen?, B3d.out]
    have l3d : w1.heap.size < w3.heap.size := by first | omega | (simp; omega)
    have c3t4 := fun o => cell_of_row w3 (w2.heap.size) o _ 32 (0, 0) B3t4.out
    have f3t4 : ∀ o, w3.frozen? ⟨w2.heap.size, o, none⟩ = false := fun o => by simp [World.frozen?, B3t4.out]
    have l3t4 : w2.heap.size < w3.heap.size := by first | omega | (simp; omega)
    have nxt4 : ¬ w.heap.size = w2.heap.size := by omega
    have nt4x : ¬ w2.heap.size = w.heap.size := by omega
    have nrt4 : ¬ w.heap.size + 1 = w2.heap.size := by omega
    have nt4r : ¬ w2.heap.size = w.heap.size + 1 := by omega
    have ndt4 : ¬ w1.heap.size = w2.heap.size := by omega
    have nt4d : ¬ w2.heap.size = w1.heap.size := by omega
    clear hb3 c2x f2x c2r f2r c2d f2d
    have his := fun W => is_str dg W hdl
    cases hn : nameS dg with
    | false =>
     rw [hn] at his
     have HIS := Lib.hid his
     have HR2 := Lib.hid (show r = .error (2, fieldPlace p ⟨#[100, 105, 103, 101, 115, 116]⟩) by rw [← HR.out]; unfold takeA; unfold nMedia; rw [HF1.out]; simp only []; unfold digA nDig; rw [HF2.out]; simp only []; rw [HF3.out]; simp only []; rw [hn]; rfl)
     clear hn his
     go_wp2_with fail
     refine (HIS.out _).mono ?_
     rintro e w4 ⟨rfl, hb4⟩
     have HB4 := Lib.hid hb4
     have sz4 := hb4.size
     (try simp at sz4)
     have B4x := Lib.hid (show w4.heap[w.heap.size]? = some (.cells #[.int .i64 v.kind, .bool v.tr, .string v.text, .slice A v.list.length ca, .slice B v.names.length cb, .string p] 32 (0, 0)) from (hb4.block (w.heap.size) (by first | omega | (simp; done) | (simp; omega))).trans (by (repeat (first | rw [alloc_before (by first | omega | (simp; done) | (simp; omega))] | rw [Below.heap_setCell _ _ _ _ (by first | (simp only; omega) | (simp; omega))])); exact B3x.out))
     have B4r := Lib.hid (show w4.heap[w.heap.size + 1]? = some (.cells #[.string ⟨#[]⟩, .string ⟨#[]⟩, .int .i64 0, .string ⟨#[]⟩, .string ⟨#[]⟩, .string ⟨#[]⟩] 62 (0, 0)) from (hb4.block (w.heap.size + 1) (by first | omega | (simp; done) | (simp; omega))).trans (by (repeat (first | rw [alloc_before (by first | omega | (simp; done) | (simp; omega))] | rw [Below.heap_setCell _ _ _ _ (by first | (simp only; omega) | (simp; omega))])); exact B3r.out))
     have B4d := Lib.hid (show w4.heap[w1.heap.size]? = some (.cells #[.string s, .string dg, .int .i64 0, .string ⟨#[]⟩, .string ⟨#[]⟩, .string ⟨#[]⟩] 62 (0, 0)) from (hb4.block (w1.heap.size) (by first | omega | (simp; done) | (simp; omega))).trans (by (repeat (first | rw [alloc_before (by first | omega | (simp; done) | (simp; omega))] | rw [Below.heap_setCell _ _ _ _ (by first | (simp only; omega) | (simp; omega))])); refine (blk_set (cs := #[.string s, .string ⟨#[]⟩, .int .i64 0, .string ⟨#[]⟩, .string ⟨#[]⟩, .string ⟨#[]⟩]) ?_ _ _).trans rfl; (repeat (first | rw [alloc_before (by first | omega | (simp; done) | (simp; omega))] | rw [Below.heap_setCell _ _ _ _ (by first | (simp only; omega) | (simp; omega))])); exact B3d.out))
     have B4t4 := Lib.hid (show w4.heap[w2.heap.size]? = some (.cells #[.int .i64 u.kind, .bool u.tr, .string u.text, .slice A1 u.list.length ca1, .slice B1 u.names.length cb1, .string (fieldPlace p ⟨#[100, 105, 103, 101, 115, 116]⟩)] 32 (0, 0)) from (hb4.block (w2.heap.size) (by first | omega | (simp; done) | (simp; omega))).trans (by (repeat (first | rw [alloc_before (by first | omega | (simp; done) | (simp; omega))] | rw [Below.heap_setCell _ _ _ _ (by first | (simp only; omega) | (simp; omega))])); exact B3t4.out))
     have c4x := fun o => cell_of_row w4 (w.heap.size) o _ 32 (0, 0) B4x.out
     have f4x : ∀ o, w4.frozen? ⟨w.heap.size, o, none⟩ = false := fun o => by simp [World.frozen?, B4x.out]
     have l4x : w.heap.size < w4.heap.size := by first | omega | (simp; omega)
     have c4r := fun o => cell_of_row w4 (w.heap.size + 1) o _ 62 (0, 0) B4r.out
     have f4r : ∀ o, w4.frozen? ⟨w.heap.size + 1, o, none⟩ = false := fun o => by simp [World.frozen?, B4r.out]
     have l4r : w.heap.size + 1 < w4.heap.size := by first | omega | (simp; omega)
     have c4d := fun o => cell_of_row w4 (w1.heap.size) o _ 62 (0, 0) B4d.out
     have f4d : ∀ o, w4.frozen? ⟨w1.heap.size, o, none⟩ = false := fun o => by simp [World.frozen?, B4d.out]
     have l4d : w1.heap.size < w4.heap.size := by first | omega | (simp; omega)
     have c4t4 := fun o => cell_of_row w4 (w2.heap.size) o _ 32 (0, 0) B4t4.out
     have f4t4 : ∀ o, w4.frozen? ⟨w2.heap.size, o, none⟩ = false := fun o => by simp [World.frozen?, B4t4.out]
     have l4t4 : w2.heap.size < w4.heap.size := by first | omega | (simp; omega)
     clear hb4 c3x f3x c3r f3r c3d f3d c3t4 f3t4
     go_wp2_with fail
     refine (wrong_any _ _ _ _ _ _ _ _ _ _ _ _).mono ?_
     rintro e w5 ⟨g, rfl, hth⟩
     go_wp2
     exact ⟨rfl, AnsL.bad _ _ HR2.out (Threw.of ⟨g, rfl, hth⟩ (by ((repeat (first | with_reducible refine Below.setCell ?_ (by first | omega | (simp; done) | (simp; omega)) _ | with_reducible refine Below.drew ?_ | with_reducible refine Below.alloc ?_ (by first | omega | (simp; done) | (simp; omega)) _)); refine Below.trans ?_ (HB4.out.mono (by first | omega | (simp; done) | (simp; omega))); (repeat (first | with_reducible refine Below.setCell ?_ (by first | omega | (simp; done) | (simp; omega)) _ | with_reducible refine Below.drew ?_ | with_reducible refine Below.alloc ?_ (by first | omega | (simp; done) | (simp; omega)) _)); refine Below.trans ?_ (HB3.out.mono (by first | omega | (simp; done) | (simp; omega))); (repeat (first | with_reducible refine Below.setCell ?_ (by first | omega | (simp; done) | (simp; omega)) _ | with_reducible refine Below.drew ?_ | with_reducible refine Below.alloc ?_ (by first | omega | (simp; done) | (simp; omega)) _)); refine Below.trans ?_ (HB2.out.mono (by first | omega | (simp; done) | (simp; omega))); (repeat (first | with_reducible refine Below.setCell ?_ (by first | omega | (simp; done) | (simp; omega)) _ | with_reducible refine Below.drew ?_ | with_reducible refine Below.alloc ?_ (by first | omega | (simp; done) | (simp; omega)) _)); refine Below.trans ?_ (HB1.out.mono (by first | omega | (simp; done) | (simp; omega))); (repeat (first | with_reducible refine Below.setCell ?_ (by first | omega | (simp; done) | (simp; omega)) _ | with_reducible refine Below.drew ?_ | with_reducible refine Below.alloc ?_ (by first | omega | (simp; done) | (simp; omega)) _)); exact Below.refl _ _)))⟩
    | true =>
     rw [hn] at his
     have HIS := Lib.hid his
     have HD := Lib.hid (show digA v p = .ok dg by unfold digA nDig; rw [HF2.out]; simp only []; rw [HF3.out]; simp only []; rw [hn]; rfl)
     clear hn his
     go_wp2_with fail
     refine (HIS.out _).mono ?_
     rintro e w4 ⟨rfl, hb4⟩
     have HB4 := Lib.hid hb4
     have sz4 := hb4.size
     (try simp at sz4)
     have B4x := Lib.hid (show w4.heap[w.heap.size]? = some (.cells #[.int .i64 v.kind, .bool v.tr, .string v.text, .slice A v.list.length ca, .slice B v.names.length cb, .string p] 32 (0, 0)) from (hb4.block (w.heap.size) (by first | omega | (simp; done) | (simp; omega))).trans (by (repeat (first | rw [alloc_before (by first | omega | (simp; done) | (simp; omega))] | rw [Below.heap_setCell _ _ _ _ (by first | (simp only; omega) | (simp; omega))])); exact B3x.out))
     have B4r := Lib.hid (show w4.heap[w.heap.size + 1]? = some (.cells #[.string ⟨#[]⟩, .string ⟨#[]⟩, .int .i64 0, .string ⟨#[]⟩, .string ⟨#[]⟩, .string ⟨#[]⟩] 62 (0, 0)) from (hb4.block (w.heap.size + 1) (by first | omega | (simp; done) | (simp; omega))).trans (by (repeat (first | rw [alloc_before (by first | omega | (simp; done) | (simp; omega))] | rw [Below.heap_setCell _ _ _ _ (by first | (simp only; omega) | (simp; omega))])); exact B3r.out))
     have B4d := Lib.hid (show w4.heap[w1.heap.size]? = some (.cells #[.string s, .string dg, .int .i64 0, .string ⟨#[]⟩, .string ⟨#[]⟩, .string ⟨#[]⟩] 62 (0, 0)) from (hb4.block (w1.heap.size) (by first | omega | (simp; done) | (simp; omega))).trans (by (repeat (first | rw [alloc_before (by first | omega | (simp; done) | (simp; omega))] | rw [Below.heap_setCell _ _ _ _ (by first | (simp only; omega) | (simp; omega))])); refine (blk_set (cs := #[.string s, .string ⟨#[]⟩, .int .i64 0, .string ⟨#[]⟩, .string ⟨#[]⟩, .string ⟨#[]⟩]) ?_ _ _).trans rfl; (repeat (first | rw [alloc_before (by first | omega | (simp; done) | (simp; omega))] | rw [Below.heap_setCell _ _ _ _ (by first | (simp only; omega) | (simp; omega))])); exact B3d.out))
     have c4x := fun o => cell_of_row w4 (w.heap.size) o _ 32 (0, 0) B4x.out
     have f4x : ∀ o, w4.frozen? ⟨w.heap.size, o, none⟩ = false := fun o => by simp [World.frozen?, B4x.out]
     have l4x : w.heap.size < w4.heap.size := by first | omega | (simp; omega)
     have c4r := fun o => cell_of_row w4 (w.heap.size + 1) o _ 62 (0, 0) B4r.out
     have f4r : ∀ o, w4.frozen? ⟨w.heap.size + 1, o, none⟩ = false := fun o => by simp [World.frozen?, B4r.out]
     have l4r : w.heap.size + 1 < w4.heap.size := by first | omega | (simp; omega)
     have c4d := fun o => cell_of_row w4 (w1.heap.size) o _ 62 (0, 0) B4d.out
     have f4d : ∀ o, w4.frozen? ⟨w1.heap.size, o, none⟩ = false := fun o => by simp [World.frozen?, B4d.out]
     have l4d : w1.heap.size < w4.heap.size := by first | omega | (simp; omega)
     clear hb4 c3x f3x c3r f3r c3d f3d c3t4 f3t4
     go_wp2_with fail
     refine (G3.out _ (by exact HV.out.agree fun b hb hlt => ⟨Below.block (B := w.heap.size) (by ((repeat (first | with_reducible refine Below.setCell ?_ (by first | omega | (simp; done) | (simp; omega)) _ | with_reducible refine Below.drew ?_ | with_reducible refine Below.alloc ?_ (by first | omega | (simp; done) | (simp; omega)) _)); refine Below.trans ?_ (HB4.out.mono (by first | omega | (simp; done) | (simp; omega))); (repeat (first | with_reducible refine Below.setCell ?_ (by first | omega | (simp; done) | (simp; omega)) _ | with_reducible refine Below.drew ?_ | with_reducible refine Below.alloc ?_ (by first | omega | (simp; done) | (simp; omega)) _)); refine Below.trans ?_ (HB3.out.mono (by first | omega | (simp; done) | (simp; omega))); (repeat (first | with_reducible refine Below.setCell ?_ (by first | omega | (simp; done) | (simp; omega)) _ | with_reducible refine Below.drew ?_ | with_reducible refine Below.alloc ?_ (by first | omega | (simp; done) | (simp; omega)) _)); refine Below.trans ?_ (HB2.out.mono (by first | omega | (simp; done) | (simp; omega))); (repeat (first | with_reducible refine Below.setCell ?_ (by first | omega | (simp; done) | (simp; omega)) _ | with_reducible refine Below.drew ?_ | with_reducible refine Below.alloc ?_ (by first | omega | (simp; done) | (simp; omega)) _)); refine Below.trans ?_ (HB1.out.mono (by first | omega | (simp; done) | (simp; omega))); (repeat (first | with_reducible refine Below.setCell ?_ (by first | omega | (simp; done) | (simp; omega)) _ | with_reducible refine Below.drew ?_ | with_reducible refine Below.alloc ?_ (by first | omega | (simp; done) | (simp; omega)) _)); exact Below.refl _ _)) b hlt, hb⟩)).mono ?_
     rintro e w5 h1
     cases hf : fieldA v p ⟨#[115, 105, 122, 101]⟩ with
     | error b =>
      rw [hf] at h1
      obtain ⟨c, z⟩ := b
      have HR2 := Lib.hid (show r = .error (c, z) by rw [← HR.out]; unfold takeA; unfold nMedia; rw [HF1.out]; simp only []; rw [HD.out]; simp only []; unfold sizeA nSize; rw [hf])
      obtain ⟨g, rfl, hth⟩ := h1
      clear hf
      go_wp2
      exact ⟨rfl, AnsL.bad c z HR2.out (Threw.of ⟨g, rfl, hth⟩ (by ((repeat (first | with_reducible refine Below.setCell ?_ (by first | omega | (simp; done) | (simp; omega)) _ | with_reducible refine Below.drew ?_ | with_reducible refine Below.alloc ?_ (by first | omega | (simp; done) | (simp; omega)) _)); refine Below.trans ?_ (HB4.out.mono (by first | omega | (simp; done) | (simp; omega))); (repeat (first | with_reducible refine Below.setCell ?_ (by first | omega | (simp; done) | (simp; omega)) _ | with_reducible refine Below.drew ?_ | with_reducible refine Below.alloc ?_ (by first | omega | (simp; done) | (simp; omega)) _)); refine Below.trans ?_ (HB3.out.mono (by first | omega | (simp; done) | (simp; omega))); (repeat (first | with_reducible refine Below.setCell ?_ (by first | omega | (simp; done) | (simp; omega)) _ | with_reducible refine Below.drew ?_ | with_reducible refine Below.alloc ?_ (by first | omega | (simp; done) | (simp; omega)) _)); refine Below.trans ?_ (HB2.out.mono (by first | omega | (simp; done) | (simp; omega))); (repeat (first | with_reducible refine Below.setCell ?_ (by first | omega | (simp; done) | (simp; omega)) _ | with_reducible refine Below.drew ?_ | with_reducible refine Below.alloc ?_ (by first | omega | (simp; done) | (simp; omega)) _)); refine Below.trans ?_ (HB1.out.mono (by first | omega | (simp; done) | (simp; omega))); (repeat (first | with_reducible refine Below.setCell ?_ (by first | omega | (simp; done) | (simp; omega)) _ | with_reducible refine Below.drew ?_ | with_reducible refine Below.alloc ?_ (by first | omega | (simp; done) | (simp; omega)) _)); exact Below.refl _ _)))⟩
     | ok sz =>
      rw [hf] at h1
      have hsb : sz.bulk ≤ 4194304 := by have := V.get_bulk (fieldA_ok hf).2; omega
      have HF4 := Lib.hid hf
      obtain ⟨val, rfl, ⟨cs2, rfl, hrep2⟩, hb5⟩ := h1
      obtain ⟨A2, ca2, B2, cb2, rfl, -⟩ := hrep2.open
      simp only [List.cons_append, List.nil_append]
      clear hf hrep2
      have HB5 := Lib.hid hb5
      have sz5 := hb5.size
      (try simp at sz5)
      have B5x := Lib.hid (show w5.heap[w.heap.size]? = some (.cells #[.int .i64 v.kind, .bool v.tr, .string v.text, .slice A v.list.length ca, .slice B v.names.length cb, .string p] 32 (0, 0)) from (hb5.block (w.heap.size) (by first | omega | (simp; done) | (simp; omega))).trans (by (repeat (first | rw [alloc_before (by first | omega | (simp; done) | (simp; omega))] | rw [Below.heap_setCell _ _ _ _ (by first | (simp only; omega) | (simp; omega))])); exact B4x.out))
      have B5r := Lib.hid (show w5.heap[w.heap.size + 1]? = some (.cells #[.string ⟨#[]⟩, .string ⟨#[]⟩, .int .i64 0, .string ⟨#[]⟩, .string ⟨#[]⟩, .string ⟨#[]⟩] 62 (0, 0)) from (hb5.block (w.heap.size + 1) (by first | omega | (simp; done) | (simp; omega))).trans (by (repeat (first | rw [alloc_before (by first | omega | (simp; done) | (simp; omega))] | rw [Below.heap_setCell _ _ _ _ (by first | (simp only; omega) | (simp; omega))])); exact B4r.out))
      have B5d := Lib.hid (show w5.heap[w1.heap.size]? = some (.cells #[.string s, .string dg, .int .i64 0, .string ⟨#[]⟩, .string ⟨#[]⟩, .string ⟨#[]⟩] 62 (0, 0)) from (hb5.block (w1.heap.size) (by first | omega | (simp; done) | (simp; omega))).trans (by (repeat (first | rw [alloc_before (by first | omega | (simp; done) | (simp; omega))] | rw [Below.heap_setCell _ _ _ _ (by first | (simp only; omega) | (simp; omega))])); exact B4d.out))
      have c5x := fun o => cell_of_row w5 (w.heap.size) o _ 32 (0, 0) B5x.out
      have f5x : ∀ o, w5.frozen? ⟨w.heap.size, o, none⟩ = false := fun o => by simp [World.frozen?, B5x.out]
      have l5x : w.heap.size < w5.heap.size := by first | omega | (simp; omega)
      have c5r := fun o => cell_of_row w5 (w.heap.size + 1) o _ 62 (0, 0) B5r.out
      have f5r : ∀ o, w5.frozen? ⟨w.heap.size + 1, o, none⟩ = false := fun o => by simp [World.frozen?, B5r.out]
      have l5r : w.heap.size + 1 < w5.heap.size := by first | omega | (simp; omega)
      have c5d := fun o => cell_of_row w5 (w1.heap.size) o _ 62 (0, 0) B5d.out
      have f5d : ∀ o, w5.frozen? ⟨w1.heap.size, o, none⟩ = false := fun o => by simp [World.frozen?, B5d.out]
      have l5d : w1.heap.size < w5.heap.size := by first | omega | (simp; omega)
      clear hb5 c4x f4x c4r f4r c4d f4d
      go_wp2_with fail
      refine (lwhole_any sz A2 _ ca2 B2 _ cb2 (fieldPlace p ⟨#[115, 105, 122, 101]⟩) 0 1048576 _ (HG.out.below (by ((repeat (first | with_reducible refine Below.setCell ?_ (by first | omega | (simp; done) | (simp; omega)) _ | with_reducible refine Below.drew ?_ | with_reducible refine Below.alloc ?_ (by first | omega | (simp; done) | (simp; omega)) _)); refine Below.trans ?_ (HB5.out.mono (by first | omega | (simp; done) | (simp; omega))); (repeat (first | with_reducible refine Below.setCell ?_ (by first | omega | (simp; done) | (simp; omega)) _ | with_reducible refine Below.drew ?_ | with_reducible refine Below.alloc ?_ (by first | omega | (simp; done) | (simp; omega)) _)); refine Below.trans ?_ (HB4.out.mono (by first | omega | (simp; done) | (simp; omega))); (repeat (first | with_reducible refine Below.setCell ?_ (by first | omega | (simp; done) | (simp; omega)) _ | with_reducible refine Below.drew ?_ | with_reducible refine Below.alloc ?_ (by first | omega | (simp; done) | (simp; omega)) _)); refine Below.trans ?_ (HB3.out.mono (by first | omega | (simp; done) | (simp; omega))); (repeat (first | with_reducible refine Below.setCell ?_ (by first | omega | (simp; done) | (simp; omega)) _ | with_reducible refine Below.drew ?_ | with_reducible refine Below.alloc ?_ (by first | omega | (simp; done) | (simp; omega)) _)); refine Below.trans ?_ (HB2.out.mono (by first | omega | (simp; done) | (simp; omega))); (repeat (first | with_reducible refine Below.setCell ?_ (by first | omega | (simp; done) | (simp; omega)) _ | with_reducible refine Below.drew ?_ | with_reducible refine Below.alloc ?_ (by first | omega | (simp; done) | (simp; omega)) _)); refine Below.trans ?_ (HB1.out.mono (by first | omega | (simp; done) | (simp; omega))); (repeat (first | with_reducible refine Below.setCell ?_ (by first | omega | (simp; done) | (simp; omega)) _ | with_reducible refine Below.drew ?_ | with_reducible refine Below.alloc ?_ (by first | omega | (simp; done) | (simp; omega)) _)); exact Below.refl _ _))) hsb).mono ?_
      rintro e w6 h1
      cases hf : wholeA sz (fieldPlace p ⟨#[115, 105, 122, 101]⟩) 0 1048576 with
      | error b =>
       rw [hf] at h1
       obtain ⟨c, z⟩ := b
       have HR2 := Lib.hid (show r = .error (c, z) by rw [← HR.out]; unfold takeA; unfold nMedia; rw [HF1.out]; simp only []; rw [HD.out]; simp only []; unfold sizeA nSize; rw [HF4.out]; simp only []; rw [hf])
       obtain ⟨g, rfl, hth⟩ := h1
       clear hf
       go_wp2
       exact ⟨rfl, AnsL.bad c z HR2.out (Threw.of ⟨g, rfl, hth⟩ (by ((repeat (first | with_reducible refine Below.setCell ?_ (by first | omega | (simp; done) | (simp; omega)) _ | with_reducible refine Below.drew ?_ | with_reducible refine Below.alloc ?_ (by first | omega | (simp; done) | (simp; omega)) _)); refine Below.trans ?_ (HB5.out.mono (by first | omega | (simp; done) | (simp; omega))); (repeat (first | with_reducible refine Below.setCell ?_ (by first | omega | (simp; done) | (simp; omega)) _ | with_reducible refine Below.drew ?_ | with_reducible refine Below.alloc ?_ (by first | omega | (simp; done) | (simp; omega)) _)); refine Below.trans ?_ (HB4.out.mono (by first | omega | (simp; done) | (simp; omega))); (repeat (first | with_reducible refine Below.setCell ?_ (by first | omega | (simp; done) | (simp; omega)) _ | with_reducible refine Below.drew ?_ | with_reducible refine Below.alloc ?_ (by first | omega | (simp; done) | (simp; omega)) _)); refine Below.trans ?_ (HB3.out.mono (by first | omega | (simp; done) | (simp; omega))); (repeat (first | with_reducible refine Below.setCell ?_ (by first | omega | (simp; done) | (simp; omega)) _ | with_reducible refine Below.drew ?_ | with_reducible refine Below.alloc ?_ (by first | omega | (simp; done) | (simp; omega)) _)); refine Below.trans ?_ (HB2.out.mono (by first | omega | (simp; done) | (simp; omega))); (repeat (first | with_reducible refine Below.setCell ?_ (by first | omega | (simp; done) | (simp; omega)) _ | with_reducible refine Below.drew ?_ | with_reducible refine Below.alloc ?_ (by first | omega | (simp; done) | (simp; omega)) _)); refine Below.trans ?_ (HB1.out.mono (by first | omega | (simp; done) | (simp; omega))); (repeat (first | with_reducible refine Below.setCell ?_ (by first | omega | (simp; done) | (simp; omega)) _ | with_reducible refine Below.drew ?_ | with_reducible refine Below.alloc ?_ (by first | omega | (simp; done) | (simp; omega)) _)); exact Below.refl _ _)))⟩
      | ok q =>
       rw [hf] at h1
       have HZ := Lib.hid (show sizeA v p = .ok q by unfold sizeA nSize; rw [HF4.out]; simp only []; rw [hf])
       obtain ⟨val, rfl, rfl, hb6⟩ := h1
       clear hf
       have HB6 := Lib.hid hb6
       have sz6 := hb6.size
       (try simp at sz6)
       have B6x := Lib.hid (show w6.heap[w.heap.size]? = some (.cells #[.int .i64 v.kind, .bool v.tr, .string v.text, .slice A v.list.length ca, .slice B v.names.length cb, .string p] 32 (0, 0)) from (hb6.block (w.heap.size) (by first | omega | (simp; done) | (simp; omega))).trans (by (repeat (first | rw [alloc_before (by first | omega | (simp; done) | (simp; omega))] | rw [Below.heap_setCell _ _ _ _ (by first | (simp only; omega) | (simp; omega))])); exact B5x.out))
       have B6r := Lib.hid (show w6.heap[w.heap.size + 1]? = some (.cells #[.string ⟨#[]⟩, .string ⟨#[]⟩, .int .i64 0, .string ⟨#[]⟩, .string ⟨#[]⟩, .string ⟨#[]⟩] 62 (0, 0)) from (hb6.block (w.heap.size + 1) (by first | omega | (simp; done) | (simp; omega))).trans (by (repeat (first | rw [alloc_before (by first | omega | (simp; done) | (simp; omega))] | rw [Below.heap_setCell _ _ _ _ (by first | (simp only; omega) | (simp; omega))])); exact B5r.out))
       have B6d := Lib.hid (show w6.heap[w1.heap.size]? = some (.cells #[.string s, .string dg, .int .i64 0, .string ⟨#[]⟩, .string ⟨#[]⟩, .string ⟨#[]⟩] 62 (0, 0)) from (hb6.block (w1.heap.size) (by first | omega | (simp; done) | (simp; omega))).trans (by (repeat (first | rw [alloc_before (by first | omega | (simp; done) | (simp; omega))] | rw [Below.heap_setCell _ _ _ _ (by first | (simp only; omega) | (simp; omega))])); exact B5d.out))
       have c6x := fun o => cell_of_row w6 (w.heap.size) o _ 32 (0, 0) B6x.out
       have f6x : ∀ o, w6.frozen? ⟨w.heap.size, o, none⟩ = false := fun o => by simp [World.frozen?, B6x.out]
       have l6x : w.heap.size < w6.heap.size := by first | omega | (simp; omega)
       have c6r := fun o => cell_of_row w6 (w.heap.size + 1) o _ 62 (0, 0) B6r.out
       have f6r : ∀ o, w6.frozen? ⟨w.heap.size + 1, o, none⟩ = false := fun o => by simp [World.frozen?, B6r.out]
       have l6r : w.heap.size + 1 < w6.heap.size := by first | omega | (simp; omega)
       have c6d := fun o => cell_of_row w6 (w1.heap.size) o _ 62 (0, 0) B6d.out
       have f6d : ∀ o, w6.frozen? ⟨w1.heap.size, o, none⟩ = false := fun o => by simp [World.frozen?, B6d.out]
       have l6d : w1.heap.size < w6.heap.size := by first | omega | (simp; omega)
       clear hb6 c5x f5x c5r f5r c5d f5d
       go_wp2_with fail
       refine (G4.out _ (by exact HV.out.agree fun b hb hlt => ⟨Below.block (B := w.heap.size) (by ((repeat (first | with_reducible refine Below.setCell ?_ (by first | omega | (simp; done) | (simp; omega)) _ | with_reducible refine Below.drew ?_ | with_reducible refine Below.alloc ?_ (by first | omega | (simp; done) | (simp; omega)) _)); refine Below.trans ?_ (HB6.out.mono (by first | omega | (simp; done) | (simp; omega))); (repeat (first | with_reducible refine Below.setCell ?_ (by first | omega | (simp; done) | (simp; omega)) _ | with_reducible refine Below.drew ?_ | with_reducible refine Below.alloc ?_ (by first | omega | (simp; done) | (simp; omega)) _)); refine Below.trans ?_ (HB5.out.mono (by first | omega | (simp; done) | (simp; omega))); (repeat (first | with_reducible refine Below.setCell ?_ (by first | omega | (simp; done) | (simp; omega)) _ | with_reducible refine Below.drew ?_ | with_reducible refine Below.alloc ?_ (by first | omega | (simp; done) | (simp; omega)) _)); refine Below.trans ?_ (HB4.out.mono (by first | omega | (simp; done) | (simp; omega))); (repeat (first | with_reducible refine Below.setCell ?_ (by first | omega | (simp; done) | (simp; omega)) _ | with_reducible refine Below.drew ?_ | with_reducible refine Below.alloc ?_ (by first | omega | (simp; done) | (simp; omega)) _)); refine Below.trans ?_ (HB3.out.mono (by first | omega | (simp; done) | (simp; omega))); (repeat (first | with_reducible refine Below.setCell ?_ (by first | omega | (simp; done) | (simp; omega)) _ | with_reducible refine Below.drew ?_ | with_reducible refine Below.alloc ?_ (by first | omega | (simp; done) | (simp; omega)) _)); refine Below.trans ?_ (HB2.out.mono (by first | omega | (simp; done) | (simp; omega))); (repeat (first | with_reducible refine Below.setCell ?_ (by first | omega | (simp; done) | (simp; omega)) _ | with_reducible refine Below.drew ?_ | with_reducible refine Below.alloc ?_ (by first | omega | (simp; done) | (simp; omega)) _)); refine Below.trans ?_ (HB1.out.mono (by first | omega | (simp; done) | (simp; omega))); (repeat (first | with_reducible refine Below.setCell ?_ (by first | omega | (simp; done) | (simp; omega)) _ | with_reducible refine Below.drew ?_ | with_reducible refine Below.alloc ?_ (by first | omega | (simp; done) | (simp; omega)) _)); exact Below.refl _ _)) b hlt, hb⟩) HK.out).mono ?_
       rintro e w7 h1
       cases hf : v.maybe ⟨#[112, 108, 97, 116, 102, 111, 114, 109]⟩ with
       | none =>
        rw [hf] at h1
        have HR2 := Lib.hid (show r = .ok (s, dg, q, (⟨#[]⟩ : ByteArray), (⟨#[]⟩ : ByteArray), (⟨#[]⟩ : ByteArray)) by rw [← HR.out]; unfold takeA; unfold nMedia; rw [HF1.out]; simp only []; rw [HD.out]; simp only []; rw [HZ.out]; simp only []; unfold platsA nPlat; rw [hf])
        obtain ⟨rfl, hb7⟩ := h1
        clear hf
        have HB7 := Lib.hid hb7
        have sz7 := hb7.size
        (try simp at sz7)
        have B7r := Lib.hid (show w7.heap[w.heap.size + 1]? = some (.cells #[.string ⟨#[]⟩, .string ⟨#[]⟩, .int .i64 0, .string ⟨#[]⟩, .string ⟨#[]⟩, .string ⟨#[]⟩] 62 (0, 0)) from (hb7.block (w.heap.size + 1) (by first | omega | (simp; done) | (simp; omega))).trans (by (repeat (first | rw [alloc_before (by first | omega | (simp; done) | (simp; omega))] | rw [Below.heap_setCell _ _ _ _ (by first | (simp only; omega) | (simp; omega))])); exact B6r.out))
        have B7d := Lib.hid (show w7.heap[w1.heap.size]? = some (.cells #[.string s, .string dg, .int .i64 q, .string ⟨#[]⟩, .string ⟨#[]⟩, .string ⟨#[]⟩] 62 (0, 0)) from (hb7.block (w1.heap.size) (by first | omega | (simp; done) | (simp; omega))).trans (by (repeat (first | rw [alloc_before (by first | omega | (simp; done) | (simp; omega))] | rw [Below.heap_setCell _ _ _ _ (by first | (simp only; omega) | (simp; omega))])); refine (blk_set (cs := #[.string s, .string dg, .int .i64 0, .string ⟨#[]⟩, .string ⟨#[]⟩, .string ⟨#[]⟩]) ?_ _ _).trans rfl; (repeat (first | rw [alloc_before (by first | omega | (simp; done) | (simp; omega))] | rw [Below.heap_setCell _ _ _ _ (by first | (simp only; omega) | (simp; omega))])); exact B6d.out))
        have c7r := fun o => cell_of_row w7 (w.heap.size + 1) o _ 62 (0, 0) B7r.out
        have f7r : ∀ o, w7.frozen? ⟨w.heap.size + 1, o, none⟩ = false := fun o => by simp [World.frozen?, B7r.out]
        have l7r : w.heap.size + 1 < w7.heap.size := by first | omega | (simp; omega)
        have c7d := fun o => cell_of_row w7 (w1.heap.size) o _ 62 (0, 0) B7d.out
        have f7d : ∀ o, w7.frozen? ⟨w1.heap.size, o, none⟩ = false := fun o => by simp [World.frozen?, B7d.out]
        have l7d : w1.heap.size < w7.heap.size := by first | omega | (simp; omega)
        clear hb7 c6x f6x c6r f6r c6d f6d
        go_wp2
        refine bodyPost_ret (v := .agg #[.string s, .string dg, .int .i64 q, .string ⟨#[]⟩, .string ⟨#[]⟩, .string ⟨#[]⟩]) (by simp [results, Tryz.results29, go_sem, c7r, f7r, c7d, f7d, l7r, l7d]) rfl ?_
        refine AnsL.ok _ _ HR2.out rfl ?_
        ((repeat (first | with_reducible refine Below.setCell ?_ (by first | omega | (simp; done) | (simp; omega)) _ | with_reducible refine Below.drew ?_ | with_reducible refine Below.alloc ?_ (by first | omega | (simp; done) | (simp; omega)) _)); refine Below.trans ?_ (HB7.out.mono (by first | omega | (simp; done) | (simp; omega))); (repeat (first | with_reducible refine Below.setCell ?_ (by first | omega | (simp; done) | (simp; omega)) _ | with_reducible refine Below.drew ?_ | with_reducible refine Below.alloc ?_ (by first | omega | (simp; done) | (simp; omega)) _)); refine Below.trans ?_ (HB6.out.mono (by first | omega | (simp; done) | (simp; omega))); (repeat (first | with_reducible refine Below.setCell ?_ (by first | omega | (simp; done) | (simp; omega)) _ | with_reducible refine Below.drew ?_ | with_reducible refine Below.alloc ?_ (by first | omega | (simp; done) | (simp; omega)) _)); refine Below.trans ?_ (HB5.out.mono (by first | omega | (simp; done) | (simp; omega))); (repeat (first | with_reducible refine Below.setCell ?_ (by first | omega | (simp; done) | (simp; omega)) _ | with_reducible refine Below.drew ?_ | with_reducible refine Below.alloc ?_ (by first | omega | (simp; done) | (simp; omega)) _)); refine Below.trans ?_ (HB4.out.mono (by first | omega | (simp; done) | (simp; omega))); (repeat (first | with_reducible refine Below.setCell ?_ (by first | omega | (simp; done) | (simp; omega)) _ | with_reducible refine Below.drew ?_ | with_reducible refine Below.alloc ?_ (by first | omega | (simp; done) | (simp; omega)) _)); refine Below.trans ?_ (HB3.out.mono (by first | omega | (simp; done) | (simp; omega))); (repeat (first | with_reducible refine Below.setCell ?_ (by first | omega | (simp; done) | (simp; omega)) _ | with_reducible refine Below.drew ?_ | with_reducible refine Below.alloc ?_ (by first | omega | (simp; done) | (simp; omega)) _)); refine Below.trans ?_ (HB2.out.mono (by first | omega | (simp; done) | (simp; omega))); (repeat (first | with_reducible refine Below.setCell ?_ (by first | omega | (simp; done) | (simp; omega)) _ | with_reducible refine Below.drew ?_ | with_reducible refine Below.alloc ?_ (by first | omega | (simp; done) | (simp; omega)) _)); refine Below.trans ?_ (HB1.out.mono (by first | omega | (simp; done) | (simp; omega))); (repeat (first | with_reducible refine Below.setCell ?_ (by first | omega | (simp; done) | (simp; omega)) _ | with_reducible refine Below.drew ?_ | with_reducible refine Below.alloc ?_ (by first | omega | (simp; done) | (simp; omega)) _)); exact Below.refl _ _)
       | some pl =>
        rw [hf] at h1
        have hpb : pl.bulk ≤ 4194304 := by have := V.get_bulk (V.maybe_get hf); omega
        have HF6 := Lib.hid hf
        obtain ⟨⟨cs3, rfl, hrep3⟩, hb7⟩ := h1
        have HPL := Lib.hid (fun W (S' : Nat → Prop) (hW : pl.Rep W S' cs3) => plat_any pl cs3 (fieldPlace p ⟨#[112, 108, 97, 116, 102, 111, 114, 109]⟩) W S' hW hpb (by have := fieldPlace_size p ⟨#[112, 108, 97, 116, 102, 111, 114, 109]⟩; have h9 : (⟨#[112, 108, 97, 116, 102, 111, 114, 109]⟩ : ByteArray).size = 8 := (by decide); have := HP.out; omega))
        have HU := Lib.hid hrep3
        obtain ⟨A3, ca3, B3, cb3, rfl, -⟩ := hrep3.open
        simp only [List.cons_append, List.nil_append] at HPL ⊢
        clear hf hrep3
        have HB7 := Lib.hid hb7
        have sz7 := hb7.size
        (try simp at sz7)
        have B7x := Lib.hid (show w7.heap[w.heap.size]? = some (.cells #[.int .i64 v.kind, .bool v.tr, .string v.text, .slice A v.list.length ca, .slice B v.names.length cb, .string p] 32 (0, 0)) from (hb7.block (w.heap.size) (by first | omega | (simp; done) | (simp; omega))).trans (by (repeat (first | rw [alloc_before (by first | omega | (simp; done) | (simp; omega))] | rw [Below.heap_setCell _ _ _ _ (by first | (simp only; omega) | (simp; omega))])); exact B6x.out))
        have B7r := Lib.hid (show w7.heap[w.heap.size + 1]? = some (.cells #[.string ⟨#[]⟩, .string ⟨#[]⟩, .int .i64 0, .string ⟨#[]⟩, .string ⟨#[]⟩, .string ⟨#[]⟩] 62 (0, 0)) from (hb7.block (w.heap.size + 1) (by first | omega | (simp; done) | (simp; omega))).trans (by (repeat (first | rw [alloc_before (by first | omega | (simp; done) | (simp; omega))] | rw [Below.heap_setCell _ _ _ _ (by first | (simp only; omega) | (simp; omega))])); exact B6r.out))
        have B7d := Lib.hid (show w7.heap[w1.heap.size]? = some (.cells #[.string s, .string dg, .int .i64 q, .string ⟨#[]⟩, .string ⟨#[]⟩, .string ⟨#[]⟩] 62 (0, 0)) from (hb7.block (w1.heap.size) (by first | omega | (simp; done) | (simp; omega))).trans (by (repeat (first | rw [alloc_before (by first | omega | (simp; done) | (simp; omega))] | rw [Below.heap_setCell _ _ _ _ (by first | (simp only; omega) | (simp; omega))])); refine (blk_set (cs := #[.string s, .string dg, .int .i64 0, .string ⟨#[]⟩, .string ⟨#[]⟩, .string ⟨#[]⟩]) ?_ _ _).trans rfl; (repeat (first | rw [alloc_before (by first | omega | (simp; done) | (simp; omega))] | rw [Below.heap_setCell _ _ _ _ (by first | (simp only; omega) | (simp; omega))])); exact B6d.out))
        have c7x := fun o => cell_of_row w7 (w.heap.size) o _ 32 (0, 0) B7x.out
        have f7x : ∀ o, w7.frozen? ⟨w.heap.size, o, none⟩ = false := fun o => by simp [World.frozen?, B7x.out]
        have l7x : w.heap.size < w7.heap.size := by first | omega | (simp; omega)
        have c7r := fun o => cell_of_row w7 (w.heap.size + 1) o _ 62 (0, 0) B7r.out
        have f7r : ∀ o, w7.frozen? ⟨w.heap.size + 1, o, none⟩ = false := fun o => by simp [World.frozen?, B7r.out]
        have l7r : w.heap.size + 1 < w7.heap.size := by first | omega | (simp; omega)
        have c7d := fun o => cell_of_row w7 (w1.heap.size) o _ 62 (0, 0) B7d.out
        have f7d : ∀ o, w7.frozen? ⟨w1.heap.size, o, none⟩ = false := fun o => by simp [World.frozen?, B7d.out]
        have l7d : w1.heap.size < w7.heap.size := by first | omega | (simp; omega)
        clear hb7 c6x f6x c6r f6r c6d f6d
        go_wp2_with fail
        refine (HPL.out _ _ (by exact HU.out.agree fun b hb hlt => ⟨Below.block (B := w7.heap.size) (by ((repeat (first | with_reducible refine Below.setCell ?_ (by first | omega | (simp; done) | (simp; omega)) _ | with_reducible refine Below.drew ?_ | with_reducible refine Below.alloc ?_ (by first | omega | (simp; done) | (simp; omega)) _)); exact Below.refl _ _)) b hlt, hb⟩)).mono ?_
        rintro e w8 h1
        cases hf : platA pl (fieldPlace p ⟨#[112, 108, 97, 116, 102, 111, 114, 109]⟩) with
        | error b =>
         rw [hf] at h1
         obtain ⟨c, z⟩ := b
         have HR2 := Lib.hid (show r = .error (c, z) by rw [← HR.out]; unfold takeA; unfold nMedia; rw [HF1.out]; simp only []; rw [HD.out]; simp only []; rw [HZ.out]; simp only []; unfold platsA nPlat; rw [HF6.out]; simp only []; rw [hf])
         obtain ⟨g, rfl, hth⟩ := h1
         clear hf
         go_wp2
         exact ⟨rfl, AnsL.bad c z HR2.out (Threw.of ⟨g, rfl, hth⟩ (by ((repeat (first | with_reducible refine Below.setCell ?_ (by first | omega | (simp; done) | (simp; omega)) _ | with_reducible refine Below.drew ?_ | with_reducible refine Below.alloc ?_ (by first | omega | (simp; done) | (simp; omega)) _)); refine Below.trans ?_ (HB7.out.mono (by first | omega | (simp; done) | (simp; omega))); (repeat (first | with_reducible refine Below.setCell ?_ (by first | omega | (simp; done) | (simp; omega)) _ | with_reducible refine Below.drew ?_ | with_reducible refine Below.alloc ?_ (by first | omega | (simp; done) | (simp; omega)) _)); refine Below.trans ?_ (HB6.out.mono (by first | omega | (simp; done) | (simp; omega))); (repeat (first | with_reducible refine Below.setCell ?_ (by first | omega | (simp; done) | (simp; omega)) _ | with_reducible refine Below.drew ?_ | with_reducible refine Below.alloc ?_ (by first | omega | (simp; done) | (simp; omega)) _)); refine Below.trans ?_ (HB5.out.mono (by first | omega | (simp; done) | (simp; omega))); (repeat (first | with_reducible refine Below.setCell ?_ (by first | omega | (simp; done) | (simp; omega)) _ | with_reducible refine Below.drew ?_ | with_reducible refine Below.alloc ?_ (by first | omega | (simp; done) | (simp; omega)) _)); refine Below.trans ?_ (HB4.out.mono (by first | omega | (simp; done) | (simp; omega))); (repeat (first | with_reducible refine Below.setCell ?_ (by first | omega | (simp; done) | (simp; omega)) _ | with_reducible refine Below.drew ?_ | with_reducible refine Below.alloc ?_ (by first | omega | (simp; done) | (simp; omega)) _)); refine Below.trans ?_ (HB3.out.mono (by first | omega | (simp; done) | (simp; omega))); (repeat (first | with_reducible refine Below.setCell ?_ (by first | omega | (simp; done) | (simp; omega)) _ | with_reducible refine Below.drew ?_ | with_reducible refine Below.alloc ?_ (by first | omega | (simp; done) | (simp; omega)) _)); refine Below.trans ?_ (HB2.out.mono (by first | omega | (simp; done) | (simp; omega))); (repeat (first | with_reducible refine Below.setCell ?_ (by first | omega | (simp; done) | (simp; omega)) _ | with_reducible refine Below.drew ?_ | with_reducible refine Below.alloc ?_ (by first | omega | (simp; done) | (simp; omega)) _)); refine Below.trans ?_ (HB1.out.mono (by first | omega | (simp; done) | (simp; omega))); (repeat (first | with_reducible refine Below.setCell ?_ (by first | omega | (simp; done) | (simp; omega)) _ | with_reducible refine Below.drew ?_ | with_reducible refine Below.alloc ?_ (by first | omega | (simp; done) | (simp; omega)) _)); exact Below.refl _ _)))⟩
        | ok pr =>
         rw [hf] at h1
         obtain ⟨pa, po, pv⟩ := pr
         have HR2 := Lib.hid (show r = .ok (s, dg, q, pa, po, pv) by rw [← HR.out]; unfold takeA; unfold nMedia; rw [HF1.out]; simp only []; rw [HD.out]; simp only []; rw [HZ.out]; simp only []; unfold platsA nPlat; rw [HF6.out]; simp only []; rw [hf])
         obtain ⟨val, rfl, rfl, hb8⟩ := h1
         clear hf
         have HB8 := Lib.hid hb8
         have sz8 := hb8.size
         (try simp at sz8)
         have B8r := Lib.hid (show w8.heap[w.heap.size + 1]? = some (.cells #[.string ⟨#[]⟩, .string ⟨#[]⟩, .int .i64 0, .string ⟨#[]⟩, .string ⟨#[]⟩, .string ⟨#[]⟩] 62 (0, 0)) from (hb8.block (w.heap.size + 1) (by first | omega | (simp; done) | (simp; omega))).trans (by (repeat (first | rw [alloc_before (by first | omega | (simp; done) | (simp; omega))] | rw [Below.heap_setCell _ _ _ _ (by first | (simp only; omega) | (simp; omega))])); exact B7r.out))
         have B8d := Lib.hid (show w8.heap[w1.heap.size]? = some (.cells #[.string s, .string dg, .int .i64 q, .string ⟨#[]⟩, .string ⟨#[]⟩, .string ⟨#[]⟩] 62 (0, 0)) from (hb8.block (w1.heap.size) (by first | omega | (simp; done) | (simp; omega))).trans (by (repeat (first | rw [alloc_before (by first | omega | (simp; done) | (simp; omega))] | rw [Below.heap_setCell _ _ _ _ (by first | (simp only; omega) | (simp; omega))])); exact B7d.out))
         have c8r := fun o => cell_of_row w8 (w.heap.size + 1) o _ 62 (0, 0) B8r.out
         have f8r : ∀ o, w8.frozen? ⟨w.heap.size + 1, o, none⟩ = false := fun o => by simp [World.frozen?, B8r.out]
         have l8r : w.heap.size + 1 < w8.heap.size := by first | omega | (simp; omega)
         have c8d := fun o => cell_of_row w8 (w1.heap.size) o _ 62 (0, 0) B8d.out
         have f8d : ∀ o, w8.frozen? ⟨w1.heap.size, o, none⟩ = false := fun o => by simp [World.frozen?, B8d.out]
         have l8d : w1.heap.size < w8.heap.size := by first | omega | (simp; omega)
         clear hb8 c7x f7x c7r f7r c7d f7d
         go_wp2
         refine bodyPost_ret (v := .agg #[.string s, .string dg, .int .i64 q, .string pa, .string po, .string pv]) (by simp [results, Tryz.results29, go_sem, c8r, f8r, c8d, f8d, l8r, l8d]) rfl ?_
         refine AnsL.ok _ _ HR2.out rfl ?_
         ((repeat (first | with_reducible refine Below.setCell ?_ (by first | omega | (simp; done) | (simp; omega)) _ | with_reducible refine Below.drew ?_ | with_reducible refine Below.alloc ?_ (by first | omega | (simp; done) | (simp; omega)) _)); refine Below.trans ?_ (HB8.out.mono (by first | omega | (simp; done) | (simp; omega))); (repeat (first | with_reducible refine Below.setCell ?_ (by first | omega | (simp; done) | (simp; omega)) _ | with_reducible refine Below.drew ?_ | with_reducible refine Below.alloc ?_ (by first | omega | (simp; done) | (simp; omega)) _)); refine Below.trans ?_ (HB7.out.mono (by first | omega | (simp; done) | (simp; omega))); (repeat (first | with_reducible refine Below.setCell ?_ (by first | omega | (simp; done) | (simp; omega)) _ | with_reducible refine Below.drew ?_ | with_reducible refine Below.alloc ?_ (by first | omega | (simp; done) | (simp; omega)) _)); refine Below.trans ?_ (HB6.out.mono (by first | omega | (simp; done) | (simp; omega))); (repeat (first | with_reducible refine Below.setCell ?_ (by first | omega | (simp; done) | (simp; omega)) _ | with_reducible refine Below.drew ?_ | with_reducible refine Below.alloc ?_ (by first | omega | (simp; done) | (simp; omega)) _)); refine Below.trans ?_ (HB5.out.mono (by first | omega | (simp; done) | (simp; omega))); (repeat (first | with_reducible refine Below.setCell ?_ (by first | omega | (simp; done) | (simp; omega)) _ | with_reducible refine Below.drew ?_ | with_reducible refine Below.alloc ?_ (by first | omega | (simp; done) | (simp; omega)) _)); refine Below.trans ?_ (HB4.out.mono (by first | omega | (simp; done) | (simp; omega))); (repeat (first | with_reducible refine Below.setCell ?_ (by first | omega | (simp; done) | (simp; omega)) _ | with_reducible refine Below.drew ?_ | with_reducible refine Below.alloc ?_ (by first | omega | (simp; done) | (simp; omega)) _)); refine Below.trans ?_ (HB3.out.mono (by first | omega | (simp; done) | (simp; omega))); (repeat (first | with_reducible refine Below.setCell ?_ (by first | omega | (simp; done) | (simp; omega)) _ | with_reducible refine Below.drew ?_ | with_reducible refine Below.alloc ?_ (by first | omega | (simp; done) | (simp; omega)) _)); refine Below.trans ?_ (HB2.out.mono (by first | omega | (simp; done) | (simp; omega))); (repeat (first | with_reducible refine Below.setCell ?_ (by first | omega | (simp; done) | (simp; omega)) _ | with_reducible refine Below.drew ?_ | with_reducible refine Below.alloc ?_ (by first | omega | (simp; done) | (simp; omega)) _)); refine Below.trans ?_ (HB1.out.mono (by first | omega | (simp; done) | (simp; omega))); (repeat (first | with_reducible refine Below.setCell ?_ (by first | omega | (simp; done) | (simp; omega)) _ | with_reducible refine Below.drew ?_ | with_reducible refine Below.alloc ?_ (by first | omega | (simp; done) | (simp; omega)) _)); exact Below.refl _ _)
end Go.Proofs.YtoimjnmhinfbkaaGreatDoor

namespace Go.Proofs.YtoimjnmhinfbkaaGreatDoor
open Go.RowKit
set_option maxRecDepth 100000
theorem digA_codes {v : V} {p : ByteArray} {b : Int × ByteArray} (h : digA v p = .error b) : b.1 ≠ 0 := by
 unfold digA at h
 split at h
 ·rename_i h1; injection h with h; subst h; have := fieldA_codes h1; omega
 ·split at h
  ·rename_i h1; injection h with h; subst h; have := textA_codes h1; omega
  ·split at h
   ·cases h
   ·injection h with h; subst h; simp
theorem sizeA_codes {v : V} {p : ByteArray} {b : Int × ByteArray} (h : sizeA v p = .error b) : b.1 ≠ 0 := by
 unfold sizeA at h
 split at h
 ·rename_i h1; injection h with h; subst h; have := fieldA_codes h1; omega
 ·exact wholeA_codes h
theorem platsA_codes {v : V} {p : ByteArray} {b : Int × ByteArray} (h : platsA v p = .error b) : b.1 ≠ 0 := by
 unfold platsA at h
 split at h
 ·cases h
 ·exact platA_codes h
theorem takeA_codes {v : V} {p : ByteArray} {b : Int × ByteArray} (h : takeA v p = .error b) : b.1 ≠ 0 := by
 unfold takeA at h
 split at h
 ·rename_i h1; injection h with h; subst h; exact filledA_codes h1
 ·split at h
  ·rename_i h1; injection h with h; subst h; exact digA_codes h1
  ·split at h
   ·rename_i h1; injection h with h; subst h; exact sizeA_codes h1
   ·split at h
    ·rename_i h1; injection h with h; subst h; exact platsA_codes h1
    ·cases h
/-- an error: none, or a fault of a code at a place; what is its own lies from 'lo' on. -/
def ErrAt (lo : Nat) (w : World) (ev : Value) (c : Int) (p : ByteArray) : Prop :=
 (ev = .nilIface ∧ c = 0 ∧ p = ⟨#[]⟩) ∨ ∃ g, ev = .iface 106 (.pointer (some ⟨g, 0, none⟩)) ∧ lo ≤ g ∧ c ≠ 0 ∧ w.heap[g]? = some (.cells #[.int .i64 c, .string p] 114 (0, 0))
theorem doc_desc (m n : ByteArray) (z : Int) (a b c : ByteArray) (w : World) : Calls Tryz.prog 26 #[.agg #[.string m, .string n, .int .i64 z, .string a, .string b, .string c]] w fun e w' => e = .returned (.agg #[.string m, .string n, .int .i64 z, .string a, .string b, .string c]) ∧ Below w.heap.size w w' := by
 go_enter Tryz.func26, Tryz.ntmps26
 go_wp2
 refine bodyPost_ret (v := .agg #[.string m, .string n, .int .i64 z, .string a, .string b, .string c]) (by simp [results, Tryz.results26, go_sem]) rfl ⟨rfl, ?_⟩
 (repeat (first | with_reducible refine Below.setCell ?_ (by simp) _))
 exact ((Below.refl _ _).alloc (Nat.le_refl _) _).alloc (by simp) _
/-- a function that was called by 'Try' came to its end: block bg has these cells. -/
def FnOK (B0 : Nat) (w : World) (bg : Nat) (cells : Array Value) (t : TypeId) (e : Ending) (w' : World) : Prop :=
 e = .returned (.tuple #[]) ∧ Below B0 w w' ∧ Also (fun b => b ≠ bg) w w' ∧ w'.heap[bg]? = some (.cells cells t (0, 0))
/-- what 'Try' answers of it. -/
def TryD (B0 : Nat) (w : World) (bg : Nat) (cells : Array Value) (t : TypeId) (c : Int) (p : ByteArray) (e : Ending) (w' : World) : Prop :=
 ∃ ev, e = .returned ev ∧ ErrAt w.heap.size w' ev c p ∧ Below B0 w w' ∧ Also (fun b => b ≠ bg) w w' ∧ w'.heap[bg]? = some (.cells cells t (0, 0))
theorem try_fn_ok {K : FuncId} {cap : Array Value} {w : World} {B0 bg : Nat} {cells : Array Value} {t : TypeId} (hent : ∀ w, (callFunc K cap).run Tryz.prog w = .ok (.enter K cap) w) (hB : B0 ≤ w.heap.size) (hbg : bg < w.heap.size)
  (h : Calls Tryz.prog K cap (w.alloc (.cells #[.nilIface] 29)) (FnOK B0 (w.alloc (.cells #[.nilIface] 29)) bg cells t)) :
  Calls Tryz.prog 10 #[.func (.func K) #[] cap] w (TryD B0 w bg cells t 0 ⟨#[]⟩) := by
 refine try_any hent (h.mono ?_)
 rintro e w2 ⟨rfl, hb, hal, hc⟩
 have h0 : w2.heap[w.heap.size]? = some (.cells #[.nilIface] 29 (0, 0)) := (hal.block _ (by omega) (by simp)).trans (heap_alloc_new w _)
 have hz := hal.size
 simp at hz
 refine ⟨cell_of_row w2 _ 0 _ 29 (0, 0) h0, by simp [World.frozen?, h0], .inl ⟨rfl, .nilIface, rfl, .inl ⟨rfl, rfl, rfl⟩, ?_, ?_, ?_⟩⟩
 ·exact (((Below.refl _ _).alloc hB _).trans hb).setCell (by simp only; omega) _
 ·refine ⟨by rw [setCell_size]; omega, fun b hb2 hlt => ?_⟩
  rw [Below.heap_setCell _ _ _ b (by simp only; omega), hal.block b hb2 (by simp; omega)]
  exact Below.heap_alloc w _ b hlt
 ·rw [Below.heap_setCell _ _ _ bg (by simp only; omega)]; exact hc
theorem try_fn_bad {K : FuncId} {cap : Array Value} {w : World} {B0 bg : Nat} {cells : Array Value} {t : TypeId} {c : Int} {s : ByteArray} (hent : ∀ w, (callFunc K cap).run Tryz.prog w = .ok (.enter K cap) w) (hB : B0 ≤ w.heap.size) (hcn : c ≠ 0)
  (hbg : w.heap[bg]? = some (.cells cells t (0, 0)))
  (h : Calls Tryz.prog K cap (w.alloc (.cells #[.nilIface] 29)) (Threw (w.alloc (.cells #[.nilIface] 29)) c s)) :
  Calls Tryz.prog 10 #[.func (.func K) #[] cap] w (TryD B0 w bg cells t c s) := by
 have hlt : bg < w.heap.size := (Array.getElem?_eq_some_iff.1 hbg).1
 refine try_any hent (h.mono ?_)
 rintro e w2 ⟨g, rfl, hg1, hg2, hg3, hb⟩
 have h0 : w2.heap[w.heap.size]? = some (.cells #[.nilIface] 29 (0, 0)) := (hb.block _ (by simp)).trans (heap_alloc_new w _)
 have hz := hb.size
 simp at hg1 hz
 have key : ∀ b, b < w.heap.size → (w2.setCell ⟨w.heap.size, 0, none⟩ (.iface 106 (.pointer (some ⟨g, 0, none⟩)))).heap[b]? = w.heap[b]? := fun b hlt => by
  rw [Below.heap_setCell _ _ _ b (by simp only; omega), hb.block b (by simp; omega)]
  exact Below.heap_alloc w _ b hlt
 refine ⟨cell_of_row w2 _ 0 _ 29 (0, 0) h0, by simp [World.frozen?, h0], .inr ⟨some ⟨g, 0, none⟩, rfl, _, rfl, .inr ⟨g, rfl, by omega, hcn, ?_⟩, ?_, ?_, ?_⟩⟩
 ·rw [Below.heap_setCell _ _ _ g (by simp only; omega)]; exact hg3
 ·exact ((((Below.refl _ _).alloc hB _).trans (hb.mono (by simp; omega))).setCell (by simp only; omega) _)
 ·exact ⟨by rw [setCell_size]; omega, fun b _ hlt => key b hlt⟩
 ·exact (key bg hlt).trans hbg
def descC (r : DescT) : Array Value := #[.string r.1, .string r.2.1, .int .i64 r.2.2.1, .string r.2.2.2.1, .string r.2.2.2.2.1, .string r.2.2.2.2.2]
set_option maxHeartbeats 800000 in
theorem try_take69 (v : V) (cs : List Value) (w : World) (S : Nat → Prop) (bv bg B0 : Nat) (hg : Glob w) (hbv : w.heap[bv]? = some (.cells cs.toArray 27 (0, 0))) (hv : v.Rep w S cs) (hb : v.bulk ≤ 4194304) (hbg : w.heap[bg]? = some (.cells #[.string ⟨#[]⟩, .string ⟨#[]⟩, .int .i64 0, .string ⟨#[]⟩, .string ⟨#[]⟩, .string ⟨#[]⟩] 62 (0, 0))) (hB : B0 ≤ bg) :
  Calls Tryz.prog 10 #[.func (.func 69) #[] #[.pointer (some ⟨bv, 0, none⟩), .pointer (some ⟨bg, 0, none⟩)]] w (TryD B0 w bg (descC (descE (takeA v ⟨#[]⟩))) 62 (codeE (takeA v ⟨#[]⟩)) (whereE (takeA v ⟨#[]⟩))) := by
 have lv : bv < w.heap.size := (Array.getElem?_eq_some_iff.1 hbv).1
 have lg : bg < w.heap.size := (Array.getElem?_eq_some_iff.1 hbg).1
 obtain ⟨W, hW⟩ : ∃ W, W = w.alloc (.cells #[.nilIface] 29) := ⟨_, rfl⟩
 have hbv2 : W.heap[bv]? = some (.cells cs.toArray 27 (0, 0)) := by rw [hW, alloc_before lv]; exact hbv
 have hbg2 : W.heap[bg]? = some (.cells #[.string ⟨#[]⟩, .string ⟨#[]⟩, .int .i64 0, .string ⟨#[]⟩, .string ⟨#[]⟩, .string ⟨#[]⟩] 62 (0, 0)) := by rw [hW, alloc_before lg]; exact hbg
 have hg2 : Glob W := hg.below (by rw [hW]; exact (Below.refl _ _).alloc (Nat.le_refl _) _)
 have hv2 : v.Rep W S cs := hv.agree fun b hs hlt => ⟨by rw [hW]; exact Below.heap_alloc w _ b hlt, hs⟩
 have hzW : W.heap.size = w.heap.size + 1 := by rw [hW]; simp
 have HB := Lib.hid hB
 have HG := Lib.hid hg2
 have HV := Lib.hid hv2
 have HOF := Lib.hid (of_any v cs W S hv2 hb)
 have HBG := Lib.hid hbg2
 obtain ⟨A, ca, B, cb, rfl, -⟩ := hv.open
 have cv := fun o => cell_of_row W bv o _ 27 (0, 0) hbv2
 have lgW : bg < W.heap.size := by omega
 cases hr : takeA v ⟨#[]⟩ with
 | error b =>
  obtain ⟨c, z⟩ := b
  refine try_fn_bad (fun _ => by kernel_rfl) (by omega) (takeA_codes hr) hbg ?_
  rw [← hW]
  have HR := Lib.hid hr
  clear hr hW hbv hbv2 hbg hbg2 hg hg2 hv hv2 hB
  go_enter Tryz.func69, Tryz.ntmps69
  go_wp2_with fail
  refine HOF.out.mono ?_
  rintro e w1 ⟨cs1, rfl, hr1, hb1⟩
  have H2 := Lib.hid (take_any v cs1 ⟨#[]⟩ w1 _ (HG.out.below hb1) hr1 hb (by decide))
  obtain ⟨A1, ca1, B1, cb1, rfl, -⟩ := hr1.open
  have HB1 := Lib.hid hb1
  clear hr1 hb1
  go_wp2_with fail
  refine H2.out.mono ?_
  rintro e w2 h2
  rw [HR.out] at h2
  obtain ⟨g, rfl, hth⟩ := h2
  go_wp2
  exact ⟨rfl, Threw.of ⟨g, rfl, hth⟩ HB1.out⟩
 | ok r =>
  obtain ⟨r1, r2, r3, r4, r5, r6⟩ := r
  refine try_fn_ok (fun _ => by kernel_rfl) (by omega) lg ?_
  rw [← hW]
  have HR := Lib.hid hr
  clear hr hW hbv hbv2 hbg hbg2 hg hg2 hv hv2 hB
  go_enter Tryz.func69, Tryz.ntmps69
  go_wp2_with fail
  refine HOF.out.mono ?_
  rintro e w1 ⟨cs1, rfl, hr1, hb1⟩
  have H2 := Lib.hid (take_any v cs1 ⟨#[]⟩ w1 _ (HG.out.below hb1) hr1 hb (by decide))
  obtain ⟨A1, ca1, B1, cb1, rfl, -⟩ := hr1.open
  have HB1 := Lib.hid hb1
  clear hr1 hb1
  go_wp2_with fail
  refine H2.out.mono ?_
  rintro e w2 h2
  rw [HR.out] at h2
  obtain ⟨val, rfl, hval, hb2⟩ := h2
  have hv' : val = .agg #[.string r1, .string r2, .int .i64 r3, .string r4, .string r5, .string r6] := hval
  subst hv'
  have hbw := HB1.out.trans (hb2.mono HB1.out.size)
  have hb2g := (hbw.block bg lgW).trans HBG.out
  have HBW := Lib.hid hbw
  have HB2G := Lib.hid hb2g
  have cg := fun o => cell_of_row w2 bg o _ 62 (0, 0) hb2g
  have fg : ∀ o, w2.frozen? ⟨bg, o, none⟩ = false := fun o => by simp [World.frozen?, hb2g]
  clear hbw hb2g hb2 hval
  go_wp2
  go_end0
  refine ⟨rfl, ?_, ?_, ?_⟩
  ·(repeat (first | with_reducible refine Below.setCell ?_ (by exact HB.out) _))
   exact HBW.out.mono (by have := HB.out; omega)
  ·(repeat (first | with_reducible refine Also.setCell ?_ (by simp) _))
   exact ⟨HBW.out.size, fun b _ hlt => HBW.out.block b hlt⟩
  ·exact blk_set (blk_set (blk_set (blk_set (blk_set (blk_set (HB2G.out) 0 _) 1 _) 2 _) 3 _) 4 _) 5 _
end Go.Proofs.YtoimjnmhinfbkaaGreatDoor
