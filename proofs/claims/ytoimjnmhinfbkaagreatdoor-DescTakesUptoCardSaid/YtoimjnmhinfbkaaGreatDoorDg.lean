import Derived.Test.YtoimjnmhinfbkaaGreatDoorDf
import Derived.Test.YtoimjnmhinfbkaaGreatDoorNe
namespace Go.Proofs.YtoimjnmhinfbkaaGreatDoor
open Go.RowKit
set_option maxRecDepth 100000

def nMedia : ByteArray := ⟨#[109, 101, 100, 105, 97, 84, 121, 112, 101]⟩
def nDig : ByteArray := ⟨#[100, 105, 103, 101, 115, 116]⟩
def nSize : ByteArray := ⟨#[115, 105, 122, 101]⟩
def nPlat : ByteArray := ⟨#[112, 108, 97, 116, 102, 111, 114, 109]⟩
/-- a descriptor: media, name, size, platform. -/
abbrev DescT := ByteArray × ByteArray × Int × ByteArray × ByteArray × ByteArray
def nameS (s : ByteArray) : Bool := nameB s.data.toList
theorem isref_str (s : ByteArray) (w : World) (hl : s.size ≤ 1073741824) : Calls Tryz.prog 72 #[.string s] w fun e w' => e = .returned (.bool (nameS s)) ∧ w = w' := by
  have := isref_any s.data.toList w (by simpa using hl)
  rw [ba_eta] at this
  exact this.mono fun e w' h => ⟨h.1, h.2.symm⟩
theorem is_str (s : ByteArray) (w : World) (hl : s.size ≤ 1073741824) : Calls Tryz.prog 74 #[.string s] w fun e w' => e = .returned (.bool (nameS s)) ∧ Below w.heap.size w w' := by
  have := is_any s.data.toList w (by simpa using hl)
  rw [ba_eta] at this
  exact this

def platsA (v : V) (p : ByteArray) : Except (Int × ByteArray) (ByteArray × ByteArray × ByteArray) :=
  match v.maybe nPlat with
  | none => .ok ((⟨#[]⟩ : ByteArray), (⟨#[]⟩ : ByteArray), (⟨#[]⟩ : ByteArray))
  | some u => platA u (fieldPlace p nPlat)
def sizeA (v : V) (p : ByteArray) : Except (Int × ByteArray) Int :=
  match fieldA v p nSize with
  | .error b => .error b
  | .ok z => wholeA z (fieldPlace p nSize) 0 1048576
def digA (v : V) (p : ByteArray) : Except (Int × ByteArray) ByteArray :=
  match fieldA v p nDig with
  | .error b => .error b
  | .ok f => match textA f (fieldPlace p nDig) 255 with
    | .error b => .error b
    | .ok d => if nameS d = true then .ok d else .error (2, fieldPlace p nDig)
def takeA (v : V) (p : ByteArray) : Except (Int × ByteArray) DescT :=
  match filledA v p nMedia 255 with
  | .error b => .error b
  | .ok s => match digA v p with
    | .error b => .error b
    | .ok d => match sizeA v p with
      | .error b => .error b
      | .ok q => match platsA v p with
        | .error b => .error b
        | .ok r => .ok (s, d, q, r)
def descE : Except (Int × ByteArray) DescT → DescT
  | .ok r => r
  | .error _ => ((⟨#[]⟩ : ByteArray), (⟨#[]⟩ : ByteArray), 0, (⟨#[]⟩ : ByteArray), (⟨#[]⟩ : ByteArray), (⟨#[]⟩ : ByteArray))
def descV (r : DescT) : Value := .agg #[.string r.1, .string r.2.1, .int .i64 r.2.2.1, .string r.2.2.2.1, .string r.2.2.2.2.1, .string r.2.2.2.2.2]
def DocD (w : World) (r : Except (Int × ByteArray) DescT) (e : Ending) (w' : World) : Prop :=
  e = .returned (.tuple #[descV (descE r), .agg #[.int .i64 (codeE r), .string (whereE r)]]) ∧ Below w.heap.size w w'

theorem wholeA_codes {v : V} {p : ByteArray} {l m : Int} {b : Int × ByteArray} (h : wholeA v p l m = .error b) : b.1 ≠ 0 := by
  unfold wholeA at h
  split at h
  · split at h
    · split at h
      · cases h
      · injection h with h; subst h; simp
    · split at h <;> (injection h with h; subst h; simp)
  · injection h with h; subst h; simp
theorem platA_codes {v : V} {p : ByteArray} {b : Int × ByteArray} (h : platA v p = .error b) : b.1 ≠ 0 := by
  unfold platA at h
  split at h
  · rename_i h1; injection h with h; subst h; exact filledA_codes h1
  · split at h
    · rename_i h1; injection h with h; subst h; exact filledA_codes h1
    · split at h
      · rename_i h1; injection h with h; subst h; rw [varA_eq] at h1; exact perhapsA_codes h1
      · cases h
theorem textA_size {u : V} {p s : ByteArray} {m : Int} (h : textA u p m = .ok s) : s = u.text := by
  unfold textA at h
  split at h
  · split at h
    · injection h with h; exact h.symm
    · cases h
  · cases h

set_option maxHeartbeats 8000000 in
theorem take_doc (v : V) (cs : List Value) (p : ByteArray) (w : World) (S : Nat → Prop) (hv : v.Rep w S cs) (hb : v.bulk ≤ 4194304) (hp : p.size ≤ 900000) :
    Calls Tryz.prog 25 #[docCells cs p 0 ⟨#[]⟩] w (DocD w (takeA v p)) := by
  generalize hr : takeA v p = r
  have HR := Lib.hid hr
  have HV := Lib.hid hv
  have H1 := fun W hW => filled_doc v cs p ⟨#[109, 101, 100, 105, 97, 84, 121, 112, 101]⟩ 255 W S hW hb (by omega) (by decide)
  have H2 := fun W hW => dfield_any v cs p ⟨#[100, 105, 103, 101, 115, 116]⟩ W S hW hb (by omega) (by decide)
  have H3 := fun W hW => dfield_any v cs p ⟨#[115, 105, 122, 101]⟩ W S hW hb (by omega) (by decide)
  have H4 := fun W hW hk => dmaybe_any v cs p ⟨#[112, 108, 97, 116, 102, 111, 114, 109]⟩ W S hW hb hk (by omega) (by decide)
  obtain ⟨A, ca, B, cb, rfl, -⟩ := hv.open
  simp only [docCells, List.cons_append, List.nil_append] at H1 H2 H3 H4 ⊢
  have G1 := Lib.hid H1
  have G2 := Lib.hid H2
  have G3 := Lib.hid H3
  have G4 := Lib.hid H4
  have HP := Lib.hid hp
  clear hr hv H1 H2 H3 H4
  go_enter Tryz.func25, Tryz.ntmps25
  go_wp2_with fail
  refine (G1.out _ (by exact HV.out.agree fun b hb hlt => ⟨Below.block (B := w.heap.size) (by ((repeat (first | with_reducible refine Below.setCell ?_ (by first | omega | (simp; done) | (simp; omega)) _ | with_reducible refine Below.drew ?_ | with_reducible refine Below.alloc ?_ (by first | omega | (simp; done) | (simp; omega)) _)); exact Below.refl _ _)) b hlt, hb⟩)).mono ?_
  rintro e w1 h1
  cases hf : filledA v p ⟨#[109, 101, 100, 105, 97, 84, 121, 112, 101]⟩ 255 with
  | error b =>
    rw [hf] at h1
    have hcode := filledA_codes hf
    obtain ⟨c, z⟩ := b
    have HR2 := Lib.hid (show r = .error (c, z) by rw [← HR.out]; unfold takeA; unfold nMedia; rw [hf])
    have h1' : e = .returned (.tuple #[.string ⟨#[]⟩, .agg #[.int .i64 c, .string z]]) ∧ Below _ _ w1 := h1
    obtain ⟨rfl, hb1⟩ := h1'
    have hc0 : (c != 0) = true := by simpa using hcode
    clear hf hcode h1
    have HB1 := Lib.hid hb1
    have sz1 := hb1.size
    (try simp at sz1)
    have B1x := Lib.hid (show w1.heap[w.heap.size]? = some (.cells #[.int .i64 v.kind, .bool v.tr, .string v.text, .slice A v.list.length ca, .slice B v.names.length cb, .string p, .int .i64 0, .string ⟨#[]⟩] 46 (0, 0)) from (hb1.block (w.heap.size) (by first | omega | (simp; done) | (simp; omega))).trans (by (repeat (first | rw [alloc_before (by first | omega | (simp; done) | (simp; omega))] | rw [Below.heap_setCell _ _ _ _ (by first | (simp only; omega) | (simp; omega))])); exact alloc_at (by simp)))
    have B1r := Lib.hid (show w1.heap[w.heap.size + 1]? = some (.cells #[.string ⟨#[]⟩, .string ⟨#[]⟩, .int .i64 0, .string ⟨#[]⟩, .string ⟨#[]⟩, .string ⟨#[]⟩] 67 (0, 0)) from (hb1.block (w.heap.size + 1) (by first | omega | (simp; done) | (simp; omega))).trans (by (repeat (first | rw [alloc_before (by first | omega | (simp; done) | (simp; omega))] | rw [Below.heap_setCell _ _ _ _ (by first | (simp only; omega) | (simp; omega))])); exact alloc_at (by simp)))
    have B1q := Lib.hid (show w1.heap[w.heap.size + 1 + 1]? = some (.cells #[.int .i64 0, .string ⟨#[]⟩] 69 (0, 0)) from (hb1.block (w.heap.size + 1 + 1) (by first | omega | (simp; done) | (simp; omega))).trans (by (repeat (first | rw [alloc_before (by first | omega | (simp; done) | (simp; omega))] | rw [Below.heap_setCell _ _ _ _ (by first | (simp only; omega) | (simp; omega))])); exact alloc_at (by simp)))
    have B1d := Lib.hid (show w1.heap[w.heap.size + 1 + 1 + 1]? = some (.cells #[.string ⟨#[]⟩, .string ⟨#[]⟩, .int .i64 0, .string ⟨#[]⟩, .string ⟨#[]⟩, .string ⟨#[]⟩] 67 (0, 0)) from (hb1.block (w.heap.size + 1 + 1 + 1) (by first | omega | (simp; done) | (simp; omega))).trans (by (repeat (first | rw [alloc_before (by first | omega | (simp; done) | (simp; omega))] | rw [Below.heap_setCell _ _ _ _ (by first | (simp only; omega) | (simp; omega))])); exact alloc_at (by simp)))
    have c1x := fun o => cell_of_row w1 (w.heap.size) o _ 46 (0, 0) B1x.out
    have f1x : ∀ o, w1.frozen? ⟨w.heap.size, o, none⟩ = false := fun o => by simp [World.frozen?, B1x.out]
    have l1x : w.heap.size < w1.heap.size := by first | omega | (simp; omega)
    have c1r := fun o => cell_of_row w1 (w.heap.size + 1) o _ 67 (0, 0) B1r.out
    have f1r : ∀ o, w1.frozen? ⟨w.heap.size + 1, o, none⟩ = false := fun o => by simp [World.frozen?, B1r.out]
    have l1r : w.heap.size + 1 < w1.heap.size := by first | omega | (simp; omega)
    have c1q := fun o => cell_of_row w1 (w.heap.size + 1 + 1) o _ 69 (0, 0) B1q.out
    have f1q : ∀ o, w1.frozen? ⟨w.heap.size + 1 + 1, o, none⟩ = false := fun o => by simp [World.frozen?, B1q.out]
    have l1q : w.heap.size + 1 + 1 < w1.heap.size := by first | omega | (simp; omega)
    have c1d := fun o => cell_of_row w1 (w.heap.size + 1 + 1 + 1) o _ 67 (0, 0) B1d.out
    have f1d : ∀ o, w1.frozen? ⟨w.heap.size + 1 + 1 + 1, o, none⟩ = false := fun o => by simp [World.frozen?, B1d.out]
    have l1d : w.heap.size + 1 + 1 + 1 < w1.heap.size := by first | omega | (simp; omega)
    clear hb1
    go_wp2_with fail
    go_region
    all_goals
      go_wp2
      refine bodyPost_ret (v := (.tuple #[.agg #[.string ⟨#[]⟩, .string ⟨#[]⟩, .int .i64 0, .string ⟨#[]⟩, .string ⟨#[]⟩, .string ⟨#[]⟩], .agg #[.int .i64 c, .string z]])) (by simp [results, Tryz.results25, go_sem, c1x, f1x, c1r, f1r, c1q, f1q, c1d, f1d, l1x, l1r, l1q, l1d]) rfl ?_
      refine ⟨by rw [HR2.out]; rfl, ?_⟩
      ((repeat (first | with_reducible refine Below.setCell ?_ (by first | omega | (simp; done) | (simp; omega)) _ | with_reducible refine Below.drew ?_ | with_reducible refine Below.alloc ?_ (by first | omega | (simp; done) | (simp; omega)) _)); refine Below.trans ?_ (HB1.out.mono (by first | omega | (simp; done) | (simp; omega))); (repeat (first | with_reducible refine Below.setCell ?_ (by first | omega | (simp; done) | (simp; omega)) _ | with_reducible refine Below.drew ?_ | with_reducible refine Below.alloc ?_ (by first | omega | (simp; done) | (simp; omega)) _)); exact Below.refl _ _)
  | ok s =>
    rw [hf] at h1
    have HF1 := Lib.hid hf
    have HK := Lib.hid (filledA_kind hf)
    have h1' : e = .returned (.tuple #[.string s, .agg #[.int .i64 0, .string ⟨#[]⟩]]) ∧ Below _ _ w1 := h1
    obtain ⟨rfl, hb1⟩ := h1'
    clear hf h1
    have HB1 := Lib.hid hb1
    have sz1 := hb1.size
    (try simp at sz1)
    have B1x := Lib.hid (show w1.heap[w.heap.size]? = some (.cells #[.int .i64 v.kind, .bool v.tr, .string v.text, .slice A v.list.length ca, .slice B v.names.length cb, .string p, .int .i64 0, .string ⟨#[]⟩] 46 (0, 0)) from (hb1.block (w.heap.size) (by first | omega | (simp; done) | (simp; omega))).trans (by (repeat (first | rw [alloc_before (by first | omega | (simp; done) | (simp; omega))] | rw [Below.heap_setCell _ _ _ _ (by first | (simp only; omega) | (simp; omega))])); exact alloc_at (by simp)))
    have B1r := Lib.hid (show w1.heap[w.heap.size + 1]? = some (.cells #[.string ⟨#[]⟩, .string ⟨#[]⟩, .int .i64 0, .string ⟨#[]⟩, .string ⟨#[]⟩, .string ⟨#[]⟩] 67 (0, 0)) from (hb1.block (w.heap.size + 1) (by first | omega | (simp; done) | (simp; omega))).trans (by (repeat (first | rw [alloc_before (by first | omega | (simp; done) | (simp; omega))] | rw [Below.heap_setCell _ _ _ _ (by first | (simp only; omega) | (simp; omega))])); exact alloc_at (by simp)))
    have B1q := Lib.hid (show w1.heap[w.heap.size + 1 + 1]? = some (.cells #[.int .i64 0, .string ⟨#[]⟩] 69 (0, 0)) from (hb1.block (w.heap.size + 1 + 1) (by first | omega | (simp; done) | (simp; omega))).trans (by (repeat (first | rw [alloc_before (by first | omega | (simp; done) | (simp; omega))] | rw [Below.heap_setCell _ _ _ _ (by first | (simp only; omega) | (simp; omega))])); exact alloc_at (by simp)))
    have B1d := Lib.hid (show w1.heap[w.heap.size + 1 + 1 + 1]? = some (.cells #[.string ⟨#[]⟩, .string ⟨#[]⟩, .int .i64 0, .string ⟨#[]⟩, .string ⟨#[]⟩, .string ⟨#[]⟩] 67 (0, 0)) from (hb1.block (w.heap.size + 1 + 1 + 1) (by first | omega | (simp; done) | (simp; omega))).trans (by (repeat (first | rw [alloc_before (by first | omega | (simp; done) | (simp; omega))] | rw [Below.heap_setCell _ _ _ _ (by first | (simp only; omega) | (simp; omega))])); exact alloc_at (by simp)))
    have c1x := fun o => cell_of_row w1 (w.heap.size) o _ 46 (0, 0) B1x.out
    have f1x : ∀ o, w1.frozen? ⟨w.heap.size, o, none⟩ = false := fun o => by simp [World.frozen?, B1x.out]
    have l1x : w.heap.size < w1.heap.size := by first | omega | (simp; omega)
    have c1r := fun o => cell_of_row w1 (w.heap.size + 1) o _ 67 (0, 0) B1r.out
    have f1r : ∀ o, w1.frozen? ⟨w.heap.size + 1, o, none⟩ = false := fun o => by simp [World.frozen?, B1r.out]
    have l1r : w.heap.size + 1 < w1.heap.size := by first | omega | (simp; omega)
    have c1q := fun o => cell_of_row w1 (w.heap.size + 1 + 1) o _ 69 (0, 0) B1q.out
    have f1q : ∀ o, w1.frozen? ⟨w.heap.size + 1 + 1, o, none⟩ = false := fun o => by simp [World.frozen?, B1q.out]
    have l1q : w.heap.size + 1 + 1 < w1.heap.size := by first | omega | (simp; omega)
    have c1d := fun o => cell_of_row w1 (w.heap.size + 1 + 1 + 1) o _ 67 (0, 0) B1d.out
    have f1d : ∀ o, w1.frozen? ⟨w.heap.size + 1 + 1 + 1, o, none⟩ = false := fun o => by simp [World.frozen?, B1d.out]
    have l1d : w.heap.size + 1 + 1 + 1 < w1.heap.size := by first | omega | (simp; omega)
    clear hb1
    go_wp2_with fail
    refine (G2.out _ (by exact HV.out.agree fun b hb hlt => ⟨Below.block (B := w.heap.size) (by ((repeat (first | with_reducible refine Below.setCell ?_ (by first | omega | (simp; done) | (simp; omega)) _ | with_reducible refine Below.drew ?_ | with_reducible refine Below.alloc ?_ (by first | omega | (simp; done) | (simp; omega)) _)); refine Below.trans ?_ (HB1.out.mono (by first | omega | (simp; done) | (simp; omega))); (repeat (first | with_reducible refine Below.setCell ?_ (by first | omega | (simp; done) | (simp; omega)) _ | with_reducible refine Below.drew ?_ | with_reducible refine Below.alloc ?_ (by first | omega | (simp; done) | (simp; omega)) _)); exact Below.refl _ _)) b hlt, hb⟩)).mono ?_
    rintro e w2 h1
    cases hf : fieldA v p ⟨#[100, 105, 103, 101, 115, 116]⟩ with
    | error b =>
      rw [hf] at h1
      have hcode : b.1 ≠ 0 := by have := fieldA_codes hf; omega
      obtain ⟨c, z⟩ := b
      have HR2 := Lib.hid (show r = .error (c, z) by rw [← HR.out]; unfold takeA; unfold nMedia; rw [HF1.out]; simp only []; unfold digA nDig; rw [hf])
      obtain ⟨rfl, hb2⟩ := h1
      have hc0 : (c != 0) = true := by simpa using hcode
      simp only [docBad]
      clear hf hcode
      have HB2 := Lib.hid hb2
      have sz2 := hb2.size
      (try simp at sz2)
      have B2x := Lib.hid (show w2.heap[w.heap.size]? = some (.cells #[.int .i64 v.kind, .bool v.tr, .string v.text, .slice A v.list.length ca, .slice B v.names.length cb, .string p, .int .i64 0, .string ⟨#[]⟩] 46 (0, 0)) from (hb2.block (w.heap.size) (by first | omega | (simp; done) | (simp; omega))).trans (by (repeat (first | rw [alloc_before (by first | omega | (simp; done) | (simp; omega))] | rw [Below.heap_setCell _ _ _ _ (by first | (simp only; omega) | (simp; omega))])); exact B1x.out))
      have B2r := Lib.hid (show w2.heap[w.heap.size + 1]? = some (.cells #[.string ⟨#[]⟩, .string ⟨#[]⟩, .int .i64 0, .string ⟨#[]⟩, .string ⟨#[]⟩, .string ⟨#[]⟩] 67 (0, 0)) from (hb2.block (w.heap.size + 1) (by first | omega | (simp; done) | (simp; omega))).trans (by (repeat (first | rw [alloc_before (by first | omega | (simp; done) | (simp; omega))] | rw [Below.heap_setCell _ _ _ _ (by first | (simp only; omega) | (simp; omega))])); exact B1r.out))
      have B2q := Lib.hid (show w2.heap[w.heap.size + 1 + 1]? = some (.cells #[.int .i64 0, .string ⟨#[]⟩] 69 (0, 0)) from (hb2.block (w.heap.size + 1 + 1) (by first | omega | (simp; done) | (simp; omega))).trans (by (repeat (first | rw [alloc_before (by first | omega | (simp; done) | (simp; omega))] | rw [Below.heap_setCell _ _ _ _ (by first | (simp only; omega) | (simp; omega))])); exact B1q.out))
      have B2d := Lib.hid (show w2.heap[w.heap.size + 1 + 1 + 1]? = some (.cells #[.string s, .string ⟨#[]⟩, .int .i64 0, .string ⟨#[]⟩, .string ⟨#[]⟩, .string ⟨#[]⟩] 67 (0, 0)) from (hb2.block (w.heap.size + 1 + 1 + 1) (by first | omega | (simp; done) | (simp; omega))).trans (by (repeat (first | rw [alloc_before (by first | omega | (simp; done) | (simp; omega))] | rw [Below.heap_setCell _ _ _ _ (by first | (simp only; omega) | (simp; omega))])); refine (blk_set (cs := #[.string ⟨#[]⟩, .string ⟨#[]⟩, .int .i64 0, .string ⟨#[]⟩, .string ⟨#[]⟩, .string ⟨#[]⟩]) ?_ _ _).trans rfl; (repeat (first | rw [alloc_before (by first | omega | (simp; done) | (simp; omega))] | rw [Below.heap_setCell _ _ _ _ (by first | (simp only; omega) | (simp; omega))])); exact B1d.out))
      have B2t6 := Lib.hid (show w2.heap[w1.heap.size]? = some (.cells #[.int .i64 0, .string ⟨#[]⟩] 69 (0, 0)) from (hb2.block (w1.heap.size) (by first | omega | (simp; done) | (simp; omega))).trans (by (repeat (first | rw [alloc_before (by first | omega | (simp; done) | (simp; omega))] | rw [Below.heap_setCell _ _ _ _ (by first | (simp only; omega) | (simp; omega))])); exact alloc_at (by simp)))
      have c2x := fun o => cell_of_row w2 (w.heap.size) o _ 46 (0, 0) B2x.out
      have f2x : ∀ o, w2.frozen? ⟨w.heap.size, o, none⟩ = false := fun o => by simp [World.frozen?, B2x.out]
      have l2x : w.heap.size < w2.heap.size := by first | omega | (simp; omega)
      have c2r := fun o => cell_of_row w2 (w.heap.size + 1) o _ 67 (0, 0) B2r.out
      have f2r : ∀ o, w2.frozen? ⟨w.heap.size + 1, o, none⟩ = false := fun o => by simp [World.frozen?, B2r.out]
      have l2r : w.heap.size + 1 < w2.heap.size := by first | omega | (simp; omega)
      have c2q := fun o => cell_of_row w2 (w.heap.size + 1 + 1) o _ 69 (0, 0) B2q.out
      have f2q : ∀ o, w2.frozen? ⟨w.heap.size + 1 + 1, o, none⟩ = false := fun o => by simp [World.frozen?, B2q.out]
      have l2q : w.heap.size + 1 + 1 < w2.heap.size := by first | omega | (simp; omega)
      have c2d := fun o => cell_of_row w2 (w.heap.size + 1 + 1 + 1) o _ 67 (0, 0) B2d.out
      have f2d : ∀ o, w2.frozen? ⟨w.heap.size + 1 + 1 + 1, o, none⟩ = false := fun o => by simp [World.frozen?, B2d.out]
      have l2d : w.heap.size + 1 + 1 + 1 < w2.heap.size := by first | omega | (simp; omega)
      have c2t6 := fun o => cell_of_row w2 (w1.heap.size) o _ 69 (0, 0) B2t6.out
      have f2t6 : ∀ o, w2.frozen? ⟨w1.heap.size, o, none⟩ = false := fun o => by simp [World.frozen?, B2t6.out]
      have l2t6 : w1.heap.size < w2.heap.size := by first | omega | (simp; omega)
      have nxt6 : ¬ w.heap.size = w1.heap.size := by omega
      have nt6x : ¬ w1.heap.size = w.heap.size := by omega
      have nrt6 : ¬ w.heap.size + 1 = w1.heap.size := by omega
      have nt6r : ¬ w1.heap.size = w.heap.size + 1 := by omega
      have nqt6 : ¬ w.heap.size + 1 + 1 = w1.heap.size := by omega
      have nt6q : ¬ w1.heap.size = w.heap.size + 1 + 1 := by omega
      have ndt6 : ¬ w.heap.size + 1 + 1 + 1 = w1.heap.size := by omega
      have nt6d : ¬ w1.heap.size = w.heap.size + 1 + 1 + 1 := by omega
      clear hb2 c1x f1x c1r f1r c1q f1q c1d f1d
      go_wp2_with fail
      refine (from_doc _ _ _ _ _ _ _ _ _ _ _ _ _).mono ?_
      rintro e w3 ⟨rfl, hb3⟩
      have HB3 := Lib.hid hb3
      have sz3 := hb3.size
      (try simp at sz3)
      have B3r := Lib.hid (show w3.heap[w.heap.size + 1]? = some (.cells #[.string ⟨#[]⟩, .string ⟨#[]⟩, .int .i64 0, .string ⟨#[]⟩, .string ⟨#[]⟩, .string ⟨#[]⟩] 67 (0, 0)) from (hb3.block (w.heap.size + 1) (by first | omega | (simp; done) | (simp; omega))).trans (by (repeat (first | rw [alloc_before (by first | omega | (simp; done) | (simp; omega))] | rw [Below.heap_setCell _ _ _ _ (by first | (simp only; omega) | (simp; omega))])); exact B2r.out))
      have B3q := Lib.hid (show w3.heap[w.heap.size + 1 + 1]? = some (.cells #[.int .i64 0, .string ⟨#[]⟩] 69 (0, 0)) from (hb3.block (w.heap.size + 1 + 1) (by first | omega | (simp; done) | (simp; omega))).trans (by (repeat (first | rw [alloc_before (by first | omega | (simp; done) | (simp; omega))] | rw [Below.heap_setCell _ _ _ _ (by first | (simp only; omega) | (simp; omega))])); exact B2q.out))
      have c3r := fun o => cell_of_row w3 (w.heap.size + 1) o _ 67 (0, 0) B3r.out
      have f3r : ∀ o, w3.frozen? ⟨w.heap.size + 1, o, none⟩ = false := fun o => by simp [World.frozen?, B3r.out]
      have l3r : w.heap.size + 1 < w3.heap.size := by first | omega | (simp; omega)
      have c3q := fun o => cell_of_row w3 (w.heap.size + 1 + 1) o _ 69 (0, 0) B3q.out
      have f3q : ∀ o, w3.frozen? ⟨w.heap.size + 1 + 1, o, none⟩ = false := fun o => by simp [World.frozen?, B3q.out]
      have l3q : w.heap.size + 1 + 1 < w3.heap.size := by first | omega | (simp; omega)
      clear hb3 c2x f2x c2r f2r c2q f2q c2d f2d c2t6 f2t6
      go_wp2
      refine bodyPost_ret (v := (.tuple #[.agg #[.string ⟨#[]⟩, .string ⟨#[]⟩, .int .i64 0, .string ⟨#[]⟩, .string ⟨#[]⟩, .string ⟨#[]⟩], .agg #[.int .i64 c, .string z]])) (by simp [results, Tryz.results25, go_sem, c3r, f3r, c3q, f3q, l3r, l3q]) rfl ?_
      refine ⟨by rw [HR2.out]; rfl, ?_⟩
      ((repeat (first | with_reducible refine Below.setCell ?_ (by first | omega | (simp; done) | (simp; omega)) _ | with_reducible refine Below.drew ?_ | with_reducible refine Below.alloc ?_ (by first | omega | (simp; done) | (simp; omega)) _)); refine Below.trans ?_ (HB3.out.mono (by first | omega | (simp; done) | (simp; omega))); (repeat (first | with_reducible refine Below.setCell ?_ (by first | omega | (simp; done) | (simp; omega)) _ | with_reducible refine Below.drew ?_ | with_reducible refine Below.alloc ?_ (by first | omega | (simp; done) | (simp; omega)) _)); refine Below.trans ?_ (HB2.out.mono (by first | omega | (simp; done) | (simp; omega))); (repeat (first | with_reducible refine Below.setCell ?_ (by first | omega | (simp; done) | (simp; omega)) _ | with_reducible refine Below.drew ?_ | with_reducible refine Below.alloc ?_ (by first | omega | (simp; done) | (simp; omega)) _)); refine Below.trans ?_ (HB1.out.mono (by first | omega | (simp; done) | (simp; omega))); (repeat (first | with_reducible refine Below.setCell ?_ (by first | omega | (simp; done) | (simp; omega)) _ | with_reducible refine Below.drew ?_ | with_reducible refine Below.alloc ?_ (by first | omega | (simp; done) | (simp; omega)) _)); exact Below.refl _ _)
    | ok u =>
      rw [hf] at h1
      have hub : u.bulk ≤ 4194304 := by have := V.get_bulk (fieldA_ok hf).2; omega
      have HF2 := Lib.hid hf
      obtain ⟨cs1, rfl, hrep1, hb2⟩ := h1
      obtain ⟨A1, ca1, B1, cb1, rfl, -⟩ := hrep1.open
      simp only [docCells, List.cons_append, List.nil_append]
      clear hf hrep1
      have HB2 := Lib.hid hb2
      have sz2 := hb2.size
      (try simp at sz2)
      have B2x := Lib.hid (show w2.heap[w.heap.size]? = some (.cells #[.int .i64 v.kind, .bool v.tr, .string v.text, .slice A v.list.length ca, .slice B v.names.length cb, .string p, .int .i64 0, .string ⟨#[]⟩] 46 (0, 0)) from (hb2.block (w.heap.size) (by first | omega | (simp; done) | (simp; omega))).trans (by (repeat (first | rw [alloc_before (by first | omega | (simp; done) | (simp; omega))] | rw [Below.heap_setCell _ _ _ _ (by first | (simp only; omega) | (simp; omega))])); exact B1x.out))
      have B2r := Lib.hid (show w2.heap[w.heap.size + 1]? = some (.cells #[.string ⟨#[]⟩, .string ⟨#[]⟩, .int .i64 0, .string ⟨#[]⟩, .string ⟨#[]⟩, .string ⟨#[]⟩] 67 (0, 0)) from (hb2.block (w.heap.size + 1) (by first | omega | (simp; done) | (simp; omega))).trans (by (repeat (first | rw [alloc_before (by first | omega | (simp; done) | (simp; omega))] | rw [Below.heap_setCell _ _ _ _ (by first | (simp only; omega) | (simp; omega))])); exact B1r.out))
      have B2q := Lib.hid (show w2.heap[w.heap.size + 1 + 1]? = some (.cells #[.int .i64 0, .string ⟨#[]⟩] 69 (0, 0)) from (hb2.block (w.heap.size + 1 + 1) (by first | omega | (simp; done) | (simp; omega))).trans (by (repeat (first | rw [alloc_before (by first | omega | (simp; done) | (simp; omega))] | rw [Below.heap_setCell _ _ _ _ (by first | (simp only; omega) | (simp; omega))])); exact B1q.out))
      have B2d := Lib.hid (show w2.heap[w.heap.size + 1 + 1 + 1]? = some (.cells #[.string s, .string ⟨#[]⟩, .int .i64 0, .string ⟨#[]⟩, .string ⟨#[]⟩, .string ⟨#[]⟩] 67 (0, 0)) from (hb2.block (w.heap.size + 1 + 1 + 1) (by first | omega | (simp; done) | (simp; omega))).trans (by (repeat (first | rw [alloc_before (by first | omega | (simp; done) | (simp; omega))] | rw [Below.heap_setCell _ _ _ _ (by first | (simp only; omega) | (simp; omega))])); refine (blk_set (cs := #[.string ⟨#[]⟩, .string ⟨#[]⟩, .int .i64 0, .string ⟨#[]⟩, .string ⟨#[]⟩, .string ⟨#[]⟩]) ?_ _ _).trans rfl; (repeat (first | rw [alloc_before (by first | omega | (simp; done) | (simp; omega))] | rw [Below.heap_setCell _ _ _ _ (by first | (simp only; omega) | (simp; omega))])); exact B1d.out))
      have B2t6 := Lib.hid (show w2.heap[w1.heap.size]? = some (.cells #[.int .i64 0, .string ⟨#[]⟩] 69 (0, 0)) from (hb2.block (w1.heap.size) (by first | omega | (simp; done) | (simp; omega))).trans (by (repeat (first | rw [alloc_before (by first | omega | (simp; done) | (simp; omega))] | rw [Below.heap_setCell _ _ _ _ (by first | (simp only; omega) | (simp; omega))])); exact alloc_at (by simp)))
      have c2x := fun o => cell_of_row w2 (w.heap.size) o _ 46 (0, 0) B2x.out
      have f2x : ∀ o, w2.frozen? ⟨w.heap.size, o, none⟩ = false := fun o => by simp [World.frozen?, B2x.out]
      have l2x : w.heap.size < w2.heap.size := by first | omega | (simp; omega)
      have c2r := fun o => cell_of_row w2 (w.heap.size + 1) o _ 67 (0, 0) B2r.out
      have f2r : ∀ o, w2.frozen? ⟨w.heap.size + 1, o, none⟩ = false := fun o => by simp [World.frozen?, B2r.out]
      have l2r : w.heap.size + 1 < w2.heap.size := by first | omega | (simp; omega)
      have c2q := fun o => cell_of_row w2 (w.heap.size + 1 + 1) o _ 69 (0, 0) B2q.out
      have f2q : ∀ o, w2.frozen? ⟨w.heap.size + 1 + 1, o, none⟩ = false := fun o => by simp [World.frozen?, B2q.out]
      have l2q : w.heap.size + 1 + 1 < w2.heap.size := by first | omega | (simp; omega)
      have c2d := fun o => cell_of_row w2 (w.heap.size + 1 + 1 + 1) o _ 67 (0, 0) B2d.out
      have f2d : ∀ o, w2.frozen? ⟨w.heap.size + 1 + 1 + 1, o, none⟩ = false := fun o => by simp [World.frozen?, B2d.out]
      have l2d : w.heap.size + 1 + 1 + 1 < w2.heap.size := by first | omega | (simp; omega)
      have c2t6 := fun o => cell_of_row w2 (w1.heap.size) o _ 69 (0, 0) B2t6.out
      have f2t6 : ∀ o, w2.frozen? ⟨w1.heap.size, o, none⟩ = false := fun o => by simp [World.frozen?, B2t6.out]
      have l2t6 : w1.heap.size < w2.heap.size := by first | omega | (simp; omega)
      have nxt6 : ¬ w.heap.size = w1.heap.size := by omega
      have nt6x : ¬ w1.heap.size = w.heap.size := by omega
      have nrt6 : ¬ w.heap.size + 1 = w1.heap.size := by omega
      have nt6r : ¬ w1.heap.size = w.heap.size + 1 := by omega
      have nqt6 : ¬ w.heap.size + 1 + 1 = w1.heap.size := by omega
      have nt6q : ¬ w1.heap.size = w.heap.size + 1 + 1 := by omega
      have ndt6 : ¬ w.heap.size + 1 + 1 + 1 = w1.heap.size := by omega
      have nt6d : ¬ w1.heap.size = w.heap.size + 1 + 1 + 1 := by omega
      clear hb2 c1x f1x c1r f1r c1q f1q c1d f1d
      go_wp2_with fail
      refine (dtext_any u A1 _ ca1 B1 _ cb1 (fieldPlace p ⟨#[100, 105, 103, 101, 115, 116]⟩) 255 _ hub).mono ?_
      rintro e w3 h1
      cases hf : textA u (fieldPlace p ⟨#[100, 105, 103, 101, 115, 116]⟩) 255 with
      | error b =>
        rw [hf] at h1
        have hcode : b.1 ≠ 0 := by have := textA_codes hf; omega
        obtain ⟨c, z⟩ := b
        have HR2 := Lib.hid (show r = .error (c, z) by rw [← HR.out]; unfold takeA; unfold nMedia; rw [HF1.out]; simp only []; unfold digA nDig; rw [HF2.out]; simp only []; rw [hf])
        have h1' : e = .returned (.tuple #[.string ⟨#[]⟩, docBad c z]) ∧ Below _ _ w3 := h1
        obtain ⟨rfl, hb3⟩ := h1'
        have hc0 : (c != 0) = true := by simpa using hcode
        simp only [docBad]
        clear hf hcode h1
        have HB3 := Lib.hid hb3
        have sz3 := hb3.size
        (try simp at sz3)
        have B3x := Lib.hid (show w3.heap[w.heap.size]? = some (.cells #[.int .i64 v.kind, .bool v.tr, .string v.text, .slice A v.list.length ca, .slice B v.names.length cb, .string p, .int .i64 0, .string ⟨#[]⟩] 46 (0, 0)) from (hb3.block (w.heap.size) (by first | omega | (simp; done) | (simp; omega))).trans (by (repeat (first | rw [alloc_before (by first | omega | (simp; done) | (simp; omega))] | rw [Below.heap_setCell _ _ _ _ (by first | (simp only; omega) | (simp; omega))])); exact B2x.out))
        have B3r := Lib.hid (show w3.heap[w.heap.size + 1]? = some (.cells #[.string ⟨#[]⟩, .string ⟨#[]⟩, .int .i64 0, .string ⟨#[]⟩, .string ⟨#[]⟩, .string ⟨#[]⟩] 67 (0, 0)) from (hb3.block (w.heap.size + 1) (by first | omega | (simp; done) | (simp; omega))).trans (by (repeat (first | rw [alloc_before (by first | omega | (simp; done) | (simp; omega))] | rw [Below.heap_setCell _ _ _ _ (by first | (simp only; omega) | (simp; omega))])); exact B2r.out))
        have B3q := Lib.hid (show w3.heap[w.heap.size + 1 + 1]? = some (.cells #[.int .i64 0, .string ⟨#[]⟩] 69 (0, 0)) from (hb3.block (w.heap.size + 1 + 1) (by first | omega | (simp; done) | (simp; omega))).trans (by (repeat (first | rw [alloc_before (by first | omega | (simp; done) | (simp; omega))] | rw [Below.heap_setCell _ _ _ _ (by first | (simp only; omega) | (simp; omega))])); exact B2q.out))
        have B3d := Lib.hid (show w3.heap[w.heap.size + 1 + 1 + 1]? = some (.cells #[.string s, .string ⟨#[]⟩, .int .i64 0, .string ⟨#[]⟩, .string ⟨#[]⟩, .string ⟨#[]⟩] 67 (0, 0)) from (hb3.block (w.heap.size + 1 + 1 + 1) (by first | omega | (simp; done) | (simp; omega))).trans (by (repeat (first | rw [alloc_before (by first | omega | (simp; done) | (simp; omega))] | rw [Below.heap_setCell _ _ _ _ (by first | (simp only; omega) | (simp; omega))])); exact B2d.out))
        have B3t6 := Lib.hid (show w3.heap[w1.heap.size]? = some (.cells #[.int .i64 0, .string ⟨#[]⟩] 69 (0, 0)) from (hb3.block (w1.heap.size) (by first | omega | (simp; done) | (simp; omega))).trans (by (repeat (first | rw [alloc_before (by first | omega | (simp; done) | (simp; omega))] | rw [Below.heap_setCell _ _ _ _ (by first | (simp only; omega) | (simp; omega))])); exact B2t6.out))
        have B3t7 := Lib.hid (show w3.heap[w2.heap.size]? = some (.cells #[.int .i64 u.kind, .bool u.tr, .string u.text, .slice A1 u.list.length ca1, .slice B1 u.names.length cb1, .string (fieldPlace p ⟨#[100, 105, 103, 101, 115, 116]⟩), .int .i64 0, .string ⟨#[]⟩] 46 (0, 0)) from (hb3.block (w2.heap.size) (by first | omega | (simp; done) | (simp; omega))).trans (by (repeat (first | rw [alloc_before (by first | omega | (simp; done) | (simp; omega))] | rw [Below.heap_setCell _ _ _ _ (by first | (simp only; omega) | (simp; omega))])); exact alloc_at (by simp)))
        have c3x := fun o => cell_of_row w3 (w.heap.size) o _ 46 (0, 0) B3x.out
        have f3x : ∀ o, w3.frozen? ⟨w.heap.size, o, none⟩ = false := fun o => by simp [World.frozen?, B3x.out]
        have l3x : w.heap.size < w3.heap.size := by first | omega | (simp; omega)
        have c3r := fun o => cell_of_row w3 (w.heap.size + 1) o _ 67 (0, 0) B3r.out
        have f3r : ∀ o, w3.frozen? ⟨w.heap.size + 1, o, none⟩ = false := fun o => by simp [World.frozen?, B3r.out]
        have l3r : w.heap.size + 1 < w3.heap.size := by first | omega | (simp; omega)
        have c3q := fun o => cell_of_row w3 (w.heap.size + 1 + 1) o _ 69 (0, 0) B3q.out
        have f3q : ∀ o, w3.frozen? ⟨w.heap.size + 1 + 1, o, none⟩ = false := fun o => by simp [World.frozen?, B3q.out]
        have l3q : w.heap.size + 1 + 1 < w3.heap.size := by first | omega | (simp; omega)
        have c3d := fun o => cell_of_row w3 (w.heap.size + 1 + 1 + 1) o _ 67 (0, 0) B3d.out
        have f3d : ∀ o, w3.frozen? ⟨w.heap.size + 1 + 1 + 1, o, none⟩ = false := fun o => by simp [World.frozen?, B3d.out]
        have l3d : w.heap.size + 1 + 1 + 1 < w3.heap.size := by first | omega | (simp; omega)
        have c3t6 := fun o => cell_of_row w3 (w1.heap.size) o _ 69 (0, 0) B3t6.out
        have f3t6 : ∀ o, w3.frozen? ⟨w1.heap.size, o, none⟩ = false := fun o => by simp [World.frozen?, B3t6.out]
        have l3t6 : w1.heap.size < w3.heap.size := by first | omega | (simp; omega)
        have c3t7 := fun o => cell_of_row w3 (w2.heap.size) o _ 46 (0, 0) B3t7.out
        have f3t7 : ∀ o, w3.frozen? ⟨w2.heap.size, o, none⟩ = false := fun o => by simp [World.frozen?, B3t7.out]
        have l3t7 : w2.heap.size < w3.heap.size := by first | omega | (simp; omega)
        have nxt7 : ¬ w.heap.size = w2.heap.size := by omega
        have nt7x : ¬ w2.heap.size = w.heap.size := by omega
        have nrt7 : ¬ w.heap.size + 1 = w2.heap.size := by omega
        have nt7r : ¬ w2.heap.size = w.heap.size + 1 := by omega
        have nqt7 : ¬ w.heap.size + 1 + 1 = w2.heap.size := by omega
        have nt7q : ¬ w2.heap.size = w.heap.size + 1 + 1 := by omega
        have ndt7 : ¬ w.heap.size + 1 + 1 + 1 = w2.heap.size := by omega
        have nt7d : ¬ w2.heap.size = w.heap.size + 1 + 1 + 1 := by omega
        have nt6t7 : ¬ w1.heap.size = w2.heap.size := by omega
        have nt7t6 : ¬ w2.heap.size = w1.heap.size := by omega
        clear hb3 c2x f2x c2r f2r c2q f2q c2d f2d c2t6 f2t6
        go_wp2_with fail
        refine (from_doc _ _ _ _ _ _ _ _ _ _ _ _ _).mono ?_
        rintro e w4 ⟨rfl, hb4⟩
        have HB4 := Lib.hid hb4
        have sz4 := hb4.size
        (try simp at sz4)
        have B4r := Lib.hid (show w4.heap[w.heap.size + 1]? = some (.cells #[.string ⟨#[]⟩, .string ⟨#[]⟩, .int .i64 0, .string ⟨#[]⟩, .string ⟨#[]⟩, .string ⟨#[]⟩] 67 (0, 0)) from (hb4.block (w.heap.size + 1) (by first | omega | (simp; done) | (simp; omega))).trans (by (repeat (first | rw [alloc_before (by first | omega | (simp; done) | (simp; omega))] | rw [Below.heap_setCell _ _ _ _ (by first | (simp only; omega) | (simp; omega))])); exact B3r.out))
        have B4q := Lib.hid (show w4.heap[w.heap.size + 1 + 1]? = some (.cells #[.int .i64 0, .string ⟨#[]⟩] 69 (0, 0)) from (hb4.block (w.heap.size + 1 + 1) (by first | omega | (simp; done) | (simp; omega))).trans (by (repeat (first | rw [alloc_before (by first | omega | (simp; done) | (simp; omega))] | rw [Below.heap_setCell _ _ _ _ (by first | (simp only; omega) | (simp; omega))])); exact B3q.out))
        have c4r := fun o => cell_of_row w4 (w.heap.size + 1) o _ 67 (0, 0) B4r.out
        have f4r : ∀ o, w4.frozen? ⟨w.heap.size + 1, o, none⟩ = false := fun o => by simp [World.frozen?, B4r.out]
        have l4r : w.heap.size + 1 < w4.heap.size := by first | omega | (simp; omega)
        have c4q := fun o => cell_of_row w4 (w.heap.size + 1 + 1) o _ 69 (0, 0) B4q.out
        have f4q : ∀ o, w4.frozen? ⟨w.heap.size + 1 + 1, o, none⟩ = false := fun o => by simp [World.frozen?, B4q.out]
        have l4q : w.heap.size + 1 + 1 < w4.heap.size := by first | omega | (simp; omega)
        clear hb4 c3x f3x c3r f3r c3q f3q c3d f3d c3t6 f3t6 c3t7 f3t7
        go_wp2
        refine bodyPost_ret (v := (.tuple #[.agg #[.string ⟨#[]⟩, .string ⟨#[]⟩, .int .i64 0, .string ⟨#[]⟩, .string ⟨#[]⟩, .string ⟨#[]⟩], .agg #[.int .i64 c, .string z]])) (by simp [results, Tryz.results25, go_sem, c4r, f4r, c4q, f4q, l4r, l4q]) rfl ?_
        refine ⟨by rw [HR2.out]; rfl, ?_⟩
        ((repeat (first | with_reducible refine Below.setCell ?_ (by first | omega | (simp; done) | (simp; omega)) _ | with_reducible refine Below.drew ?_ | with_reducible refine Below.alloc ?_ (by first | omega | (simp; done) | (simp; omega)) _)); refine Below.trans ?_ (HB4.out.mono (by first | omega | (simp; done) | (simp; omega))); (repeat (first | with_reducible refine Below.setCell ?_ (by first | omega | (simp; done) | (simp; omega)) _ | with_reducible refine Below.drew ?_ | with_reducible refine Below.alloc ?_ (by first | omega | (simp; done) | (simp; omega)) _)); refine Below.trans ?_ (HB3.out.mono (by first | omega | (simp; done) | (simp; omega))); (repeat (first | with_reducible refine Below.setCell ?_ (by first | omega | (simp; done) | (simp; omega)) _ | with_reducible refine Below.drew ?_ | with_reducible refine Below.alloc ?_ (by first | omega | (simp; done) | (simp; omega)) _)); refine Below.trans ?_ (HB2.out.mono (by first | omega | (simp; done) | (simp; omega))); (repeat (first | with_reducible refine Below.setCell ?_ (by first | omega | (simp; done) | (simp; omega)) _ | with_reducible refine Below.drew ?_ | with_reducible refine Below.alloc ?_ (by first | omega | (simp; done) | (simp; omega)) _)); refine Below.trans ?_ (HB1.out.mono (by first | omega | (simp; done) | (simp; omega))); (repeat (first | with_reducible refine Below.setCell ?_ (by first | omega | (simp; done) | (simp; omega)) _ | with_reducible refine Below.drew ?_ | with_reducible refine Below.alloc ?_ (by first | omega | (simp; done) | (simp; omega)) _)); exact Below.refl _ _)
      | ok dg =>
        rw [hf] at h1
        have hdl : dg.size ≤ 1073741824 := by rw [textA_size hf]; have := u.text_bulk; omega
        have HF3 := Lib.hid hf
        have h1' : e = .returned (.tuple #[.string dg, docBad 0 ⟨#[]⟩]) ∧ Below _ _ w3 := h1
        obtain ⟨rfl, hb3⟩ := h1'
        simp only [docBad]
        clear hf h1
        have HB3 := Lib.hid hb3
        have sz3 := hb3.size
        (try simp at sz3)
        have B3x := Lib.hid (show w3.heap[w.heap.size]? = some (.cells #[.int .i64 v.kind, .bool v.tr, .string v.text, .slice A v.list.length ca, .slice B v.names.length cb, .string p, .int .i64 0, .string ⟨#[]⟩] 46 (0, 0)) from (hb3.block (w.heap.size) (by first | omega | (simp; done) | (simp; omega))).trans (by (repeat (first | rw [alloc_before (by first | omega | (simp; done) | (simp; omega))] | rw [Below.heap_setCell _ _ _ _ (by first | (simp only; omega) | (simp; omega))])); exact B2x.out))
        have B3r := Lib.hid (show w3.heap[w.heap.size + 1]? = some (.cells #[.string ⟨#[]⟩, .string ⟨#[]⟩, .int .i64 0, .string ⟨#[]⟩, .string ⟨#[]⟩, .string ⟨#[]⟩] 67 (0, 0)) from (hb3.block (w.heap.size + 1) (by first | omega | (simp; done) | (simp; omega))).trans (by (repeat (first | rw [alloc_before (by first | omega | (simp; done) | (simp; omega))] | rw [Below.heap_setCell _ _ _ _ (by first | (simp only; omega) | (simp; omega))])); exact B2r.out))
        have B3q := Lib.hid (show w3.heap[w.heap.size + 1 + 1]? = some (.cells #[.int .i64 0, .string ⟨#[]⟩] 69 (0, 0)) from (hb3.block (w.heap.size + 1 + 1) (by first | omega | (simp; done) | (simp; omega))).trans (by (repeat (first | rw [alloc_before (by first | omega | (simp; done) | (simp; omega))] | rw [Below.heap_setCell _ _ _ _ (by first | (simp only; omega) | (simp; omega))])); exact B2q.out))
        have B3d := Lib.hid (show w3.heap[w.heap.size + 1 + 1 + 1]? = some (.cells #[.string s, .string ⟨#[]⟩, .int .i64 0, .string ⟨#[]⟩, .string ⟨#[]⟩, .string ⟨#[]⟩] 67 (0, 0)) from (hb3.block (w.heap.size + 1 + 1 + 1) (by first | omega | (simp; done) | (simp; omega))).trans (by (repeat (first | rw [alloc_before (by first | omega | (simp; done) | (simp; omega))] | rw [Below.heap_setCell _ _ _ _ (by first | (simp only; omega) | (simp; omega))])); exact B2d.out))
        have B3t6 := Lib.hid (show w3.heap[w1.heap.size]? = some (.cells #[.int .i64 0, .string ⟨#[]⟩] 69 (0, 0)) from (hb3.block (w1.heap.size) (by first | omega | (simp; done) | (simp; omega))).trans (by (repeat (first | rw [alloc_before (by first | omega | (simp; done) | (simp; omega))] | rw [Below.heap_setCell _ _ _ _ (by first | (simp only; omega) | (simp; omega))])); exact B2t6.out))
        have B3t7 := Lib.hid (show w3.heap[w2.heap.size]? = some (.cells #[.int .i64 u.kind, .bool u.tr, .string u.text, .slice A1 u.list.length ca1, .slice B1 u.names.length cb1, .string (fieldPlace p ⟨#[100, 105, 103, 101, 115, 116]⟩), .int .i64 0, .string ⟨#[]⟩] 46 (0, 0)) from (hb3.block (w2.heap.size) (by first | omega | (simp; done) | (simp; omega))).trans (by (repeat (first | rw [alloc_before (by first | omega | (simp; done) | (simp; omega))] | rw [Below.heap_setCell _ _ _ _ (by first | (simp only; omega) | (simp; omega))])); exact alloc_at (by simp)))
        have c3x := fun o => cell_of_row w3 (w.heap.size) o _ 46 (0, 0) B3x.out
        have f3x : ∀ o, w3.frozen? ⟨w.heap.size, o, none⟩ = false := fun o => by simp [World.frozen?, B3x.out]
        have l3x : w.heap.size < w3.heap.size := by first | omega | (simp; omega)
        have c3r := fun o => cell_of_row w3 (w.heap.size + 1) o _ 67 (0, 0) B3r.out
        have f3r : ∀ o, w3.frozen? ⟨w.heap.size + 1, o, none⟩ = false := fun o => by simp [World.frozen?, B3r.out]
        have l3r : w.heap.size + 1 < w3.heap.size := by first | omega | (simp; omega)
        have c3q := fun o => cell_of_row w3 (w.heap.size + 1 + 1) o _ 69 (0, 0) B3q.out
        have f3q : ∀ o, w3.frozen? ⟨w.heap.size + 1 + 1, o, none⟩ = false := fun o => by simp [World.frozen?, B3q.out]
        have l3q : w.heap.size + 1 + 1 < w3.heap.size := by first | omega | (simp; omega)
        have c3d := fun o => cell_of_row w3 (w.heap.size + 1 + 1 + 1) o _ 67 (0, 0) B3d.out
        have f3d : ∀ o, w3.frozen? ⟨w.heap.size + 1 + 1 + 1, o, none⟩ = false := fun o => by simp [World.frozen?, B3d.out]
        have l3d : w.heap.size + 1 + 1 + 1 < w3.heap.size := by first | omega | (simp; omega)
        have c3t6 := fun o => cell_of_row w3 (w1.heap.size) o _ 69 (0, 0) B3t6.out
        have f3t6 : ∀ o, w3.frozen? ⟨w1.heap.size, o, none⟩ = false := fun o => by simp [World.frozen?, B3t6.out]
        have l3t6 : w1.heap.size < w3.heap.size := by first | omega | (simp; omega)
        have c3t7 := fun o => cell_of_row w3 (w2.heap.size) o _ 46 (0, 0) B3t7.out
        have f3t7 : ∀ o, w3.frozen? ⟨w2.heap.size, o, none⟩ = false := fun o => by simp [World.frozen?, B3t7.out]
        have l3t7 : w2.heap.size < w3.heap.size := by first | omega | (simp; omega)
        have nxt7 : ¬ w.heap.size = w2.heap.size := by omega
        have nt7x : ¬ w2.heap.size = w.heap.size := by omega
        have nrt7 : ¬ w.heap.size + 1 = w2.heap.size := by omega
        have nt7r : ¬ w2.heap.size = w.heap.size + 1 := by omega
        have nqt7 : ¬ w.heap.size + 1 + 1 = w2.heap.size := by omega
        have nt7q : ¬ w2.heap.size = w.heap.size + 1 + 1 := by omega
        have ndt7 : ¬ w.heap.size + 1 + 1 + 1 = w2.heap.size := by omega
        have nt7d : ¬ w2.heap.size = w.heap.size + 1 + 1 + 1 := by omega
        have nt6t7 : ¬ w1.heap.size = w2.heap.size := by omega
        have nt7t6 : ¬ w2.heap.size = w1.heap.size := by omega
        clear hb3 c2x f2x c2r f2r c2q f2q c2d f2d c2t6 f2t6
        have his := fun W => isref_str dg W hdl
        cases hn : nameS dg with
        | false =>
          rw [hn] at his
          have HIS := Lib.hid his
          have HR2 := Lib.hid (show r = .error (2, fieldPlace p ⟨#[100, 105, 103, 101, 115, 116]⟩) by rw [← HR.out]; unfold takeA; unfold nMedia; rw [HF1.out]; simp only []; unfold digA nDig; rw [HF2.out]; simp only []; rw [HF3.out]; simp only []; rw [hn]; rfl)
          clear hn his
          go_wp2_with (go_at_call 72; refine (HIS.out _).mono ?_; rintro e wq ⟨rfl, rfl⟩)
          go_region
          all_goals
            go_wp2
            refine bodyPost_ret (v := (.tuple #[.agg #[.string ⟨#[]⟩, .string ⟨#[]⟩, .int .i64 0, .string ⟨#[]⟩, .string ⟨#[]⟩, .string ⟨#[]⟩], .agg #[.int .i64 2, .string (fieldPlace p ⟨#[100, 105, 103, 101, 115, 116]⟩)]])) (by simp [results, Tryz.results25, go_sem, c3x, f3x, c3r, f3r, c3q, f3q, c3d, f3d, c3t6, f3t6, c3t7, f3t7, l3x, l3r, l3q, l3d, l3t6, l3t7]) rfl ?_
            refine ⟨by rw [HR2.out]; rfl, ?_⟩
            ((repeat (first | with_reducible refine Below.setCell ?_ (by first | omega | (simp; done) | (simp; omega)) _ | with_reducible refine Below.drew ?_ | with_reducible refine Below.alloc ?_ (by first | omega | (simp; done) | (simp; omega)) _)); refine Below.trans ?_ (HB3.out.mono (by first | omega | (simp; done) | (simp; omega))); (repeat (first | with_reducible refine Below.setCell ?_ (by first | omega | (simp; done) | (simp; omega)) _ | with_reducible refine Below.drew ?_ | with_reducible refine Below.alloc ?_ (by first | omega | (simp; done) | (simp; omega)) _)); refine Below.trans ?_ (HB2.out.mono (by first | omega | (simp; done) | (simp; omega))); (repeat (first | with_reducible refine Below.setCell ?_ (by first | omega | (simp; done) | (simp; omega)) _ | with_reducible refine Below.drew ?_ | with_reducible refine Below.alloc ?_ (by first | omega | (simp; done) | (simp; omega)) _)); refine Below.trans ?_ (HB1.out.mono (by first | omega | (simp; done) | (simp; omega))); (repeat (first | with_reducible refine Below.setCell ?_ (by first | omega | (simp; done) | (simp; omega)) _ | with_reducible refine Below.drew ?_ | with_reducible refine Below.alloc ?_ (by first | omega | (simp; done) | (simp; omega)) _)); exact Below.refl _ _)
        | true =>
          rw [hn] at his
          have HIS := Lib.hid his
          have HD := Lib.hid (show digA v p = .ok dg by unfold digA nDig; rw [HF2.out]; simp only []; rw [HF3.out]; simp only []; rw [hn]; rfl)
          clear hn his
          go_wp2_with (go_at_call 72; refine (HIS.out _).mono ?_; rintro e wq ⟨rfl, rfl⟩)
          refine (G3.out _ (by exact HV.out.agree fun b hb hlt => ⟨Below.block (B := w.heap.size) (by ((repeat (first | with_reducible refine Below.setCell ?_ (by first | omega | (simp; done) | (simp; omega)) _ | with_reducible refine Below.drew ?_ | with_reducible refine Below.alloc ?_ (by first | omega | (simp; done) | (simp; omega)) _)); refine Below.trans ?_ (HB3.out.mono (by first | omega | (simp; done) | (simp; omega))); (repeat (first | with_reducible refine Below.setCell ?_ (by first | omega | (simp; done) | (simp; omega)) _ | with_reducible refine Below.drew ?_ | with_reducible refine Below.alloc ?_ (by first | omega | (simp; done) | (simp; omega)) _)); refine Below.trans ?_ (HB2.out.mono (by first | omega | (simp; done) | (simp; omega))); (repeat (first | with_reducible refine Below.setCell ?_ (by first | omega | (simp; done) | (simp; omega)) _ | with_reducible refine Below.drew ?_ | with_reducible refine Below.alloc ?_ (by first | omega | (simp; done) | (simp; omega)) _)); refine Below.trans ?_ (HB1.out.mono (by first | omega | (simp; done) | (simp; omega))); (repeat (first | with_reducible refine Below.setCell ?_ (by first | omega | (simp; done) | (simp; omega)) _ | with_reducible refine Below.drew ?_ | with_reducible refine Below.alloc ?_ (by first | omega | (simp; done) | (simp; omega)) _)); exact Below.refl _ _)) b hlt, hb⟩)).mono ?_
          rintro e w4 h1
          cases hf : fieldA v p ⟨#[115, 105, 122, 101]⟩ with
          | error b =>
            rw [hf] at h1
            have hcode : b.1 ≠ 0 := by have := fieldA_codes hf; omega
            obtain ⟨c, z⟩ := b
            have HR2 := Lib.hid (show r = .error (c, z) by rw [← HR.out]; unfold takeA; unfold nMedia; rw [HF1.out]; simp only []; rw [HD.out]; simp only []; unfold sizeA nSize; rw [hf])
            obtain ⟨rfl, hb4⟩ := h1
            have hc0 : (c != 0) = true := by simpa using hcode
            simp only [docBad]
            clear hf hcode
            have HB4 := Lib.hid hb4
            have sz4 := hb4.size
            (try simp at sz4)
            have B4x := Lib.hid (show w4.heap[w.heap.size]? = some (.cells #[.int .i64 v.kind, .bool v.tr, .string v.text, .slice A v.list.length ca, .slice B v.names.length cb, .string p, .int .i64 0, .string ⟨#[]⟩] 46 (0, 0)) from (hb4.block (w.heap.size) (by first | omega | (simp; done) | (simp; omega))).trans (by (repeat (first | rw [alloc_before (by first | omega | (simp; done) | (simp; omega))] | rw [Below.heap_setCell _ _ _ _ (by first | (simp only; omega) | (simp; omega))])); exact B3x.out))
            have B4r := Lib.hid (show w4.heap[w.heap.size + 1]? = some (.cells #[.string ⟨#[]⟩, .string ⟨#[]⟩, .int .i64 0, .string ⟨#[]⟩, .string ⟨#[]⟩, .string ⟨#[]⟩] 67 (0, 0)) from (hb4.block (w.heap.size + 1) (by first | omega | (simp; done) | (simp; omega))).trans (by (repeat (first | rw [alloc_before (by first | omega | (simp; done) | (simp; omega))] | rw [Below.heap_setCell _ _ _ _ (by first | (simp only; omega) | (simp; omega))])); exact B3r.out))
            have B4q := Lib.hid (show w4.heap[w.heap.size + 1 + 1]? = some (.cells #[.int .i64 0, .string ⟨#[]⟩] 69 (0, 0)) from (hb4.block (w.heap.size + 1 + 1) (by first | omega | (simp; done) | (simp; omega))).trans (by (repeat (first | rw [alloc_before (by first | omega | (simp; done) | (simp; omega))] | rw [Below.heap_setCell _ _ _ _ (by first | (simp only; omega) | (simp; omega))])); exact B3q.out))
            have B4d := Lib.hid (show w4.heap[w.heap.size + 1 + 1 + 1]? = some (.cells #[.string s, .string dg, .int .i64 0, .string ⟨#[]⟩, .string ⟨#[]⟩, .string ⟨#[]⟩] 67 (0, 0)) from (hb4.block (w.heap.size + 1 + 1 + 1) (by first | omega | (simp; done) | (simp; omega))).trans (by (repeat (first | rw [alloc_before (by first | omega | (simp; done) | (simp; omega))] | rw [Below.heap_setCell _ _ _ _ (by first | (simp only; omega) | (simp; omega))])); refine (blk_set (cs := #[.string s, .string ⟨#[]⟩, .int .i64 0, .string ⟨#[]⟩, .string ⟨#[]⟩, .string ⟨#[]⟩]) ?_ _ _).trans rfl; (repeat (first | rw [alloc_before (by first | omega | (simp; done) | (simp; omega))] | rw [Below.heap_setCell _ _ _ _ (by first | (simp only; omega) | (simp; omega))])); exact B3d.out))
            have B4t6 := Lib.hid (show w4.heap[w1.heap.size]? = some (.cells #[.int .i64 0, .string ⟨#[]⟩] 69 (0, 0)) from (hb4.block (w1.heap.size) (by first | omega | (simp; done) | (simp; omega))).trans (by (repeat (first | rw [alloc_before (by first | omega | (simp; done) | (simp; omega))] | rw [Below.heap_setCell _ _ _ _ (by first | (simp only; omega) | (simp; omega))])); exact B3t6.out))
            have B4t7 := Lib.hid (show w4.heap[w2.heap.size]? = some (.cells #[.int .i64 u.kind, .bool u.tr, .string u.text, .slice A1 u.list.length ca1, .slice B1 u.names.length cb1, .string (fieldPlace p ⟨#[100, 105, 103, 101, 115, 116]⟩), .int .i64 0, .string ⟨#[]⟩] 46 (0, 0)) from (hb4.block (w2.heap.size) (by first | omega | (simp; done) | (simp; omega))).trans (by (repeat (first | rw [alloc_before (by first | omega | (simp; done) | (simp; omega))] | rw [Below.heap_setCell _ _ _ _ (by first | (simp only; omega) | (simp; omega))])); exact B3t7.out))
            have B4t9 := Lib.hid (show w4.heap[w3.heap.size]? = some (.cells #[.int .i64 0, .bool false, .string ⟨#[]⟩, .slice none 0 0, .slice none 0 0, .string ⟨#[]⟩, .int .i64 0, .string ⟨#[]⟩] 46 (0, 0)) from (hb4.block (w3.heap.size) (by first | omega | (simp; done) | (simp; omega))).trans (by (repeat (first | rw [alloc_before (by first | omega | (simp; done) | (simp; omega))] | rw [Below.heap_setCell _ _ _ _ (by first | (simp only; omega) | (simp; omega))])); exact alloc_at (by simp)))
            have c4x := fun o => cell_of_row w4 (w.heap.size) o _ 46 (0, 0) B4x.out
            have f4x : ∀ o, w4.frozen? ⟨w.heap.size, o, none⟩ = false := fun o => by simp [World.frozen?, B4x.out]
            have l4x : w.heap.size < w4.heap.size := by first | omega | (simp; omega)
            have c4r := fun o => cell_of_row w4 (w.heap.size + 1) o _ 67 (0, 0) B4r.out
            have f4r : ∀ o, w4.frozen? ⟨w.heap.size + 1, o, none⟩ = false := fun o => by simp [World.frozen?, B4r.out]
            have l4r : w.heap.size + 1 < w4.heap.size := by first | omega | (simp; omega)
            have c4q := fun o => cell_of_row w4 (w.heap.size + 1 + 1) o _ 69 (0, 0) B4q.out
            have f4q : ∀ o, w4.frozen? ⟨w.heap.size + 1 + 1, o, none⟩ = false := fun o => by simp [World.frozen?, B4q.out]
            have l4q : w.heap.size + 1 + 1 < w4.heap.size := by first | omega | (simp; omega)
            have c4d := fun o => cell_of_row w4 (w.heap.size + 1 + 1 + 1) o _ 67 (0, 0) B4d.out
            have f4d : ∀ o, w4.frozen? ⟨w.heap.size + 1 + 1 + 1, o, none⟩ = false := fun o => by simp [World.frozen?, B4d.out]
            have l4d : w.heap.size + 1 + 1 + 1 < w4.heap.size := by first | omega | (simp; omega)
            have c4t6 := fun o => cell_of_row w4 (w1.heap.size) o _ 69 (0, 0) B4t6.out
            have f4t6 : ∀ o, w4.frozen? ⟨w1.heap.size, o, none⟩ = false := fun o => by simp [World.frozen?, B4t6.out]
            have l4t6 : w1.heap.size < w4.heap.size := by first | omega | (simp; omega)
            have c4t7 := fun o => cell_of_row w4 (w2.heap.size) o _ 46 (0, 0) B4t7.out
            have f4t7 : ∀ o, w4.frozen? ⟨w2.heap.size, o, none⟩ = false := fun o => by simp [World.frozen?, B4t7.out]
            have l4t7 : w2.heap.size < w4.heap.size := by first | omega | (simp; omega)
            have c4t9 := fun o => cell_of_row w4 (w3.heap.size) o _ 46 (0, 0) B4t9.out
            have f4t9 : ∀ o, w4.frozen? ⟨w3.heap.size, o, none⟩ = false := fun o => by simp [World.frozen?, B4t9.out]
            have l4t9 : w3.heap.size < w4.heap.size := by first | omega | (simp; omega)
            have nxt9 : ¬ w.heap.size = w3.heap.size := by omega
            have nt9x : ¬ w3.heap.size = w.heap.size := by omega
            have nrt9 : ¬ w.heap.size + 1 = w3.heap.size := by omega
            have nt9r : ¬ w3.heap.size = w.heap.size + 1 := by omega
            have nqt9 : ¬ w.heap.size + 1 + 1 = w3.heap.size := by omega
            have nt9q : ¬ w3.heap.size = w.heap.size + 1 + 1 := by omega
            have ndt9 : ¬ w.heap.size + 1 + 1 + 1 = w3.heap.size := by omega
            have nt9d : ¬ w3.heap.size = w.heap.size + 1 + 1 + 1 := by omega
            have nt6t9 : ¬ w1.heap.size = w3.heap.size := by omega
            have nt9t6 : ¬ w3.heap.size = w1.heap.size := by omega
            have nt7t9 : ¬ w2.heap.size = w3.heap.size := by omega
            have nt9t7 : ¬ w3.heap.size = w2.heap.size := by omega
            clear hb4 c3x f3x c3r f3r c3q f3q c3d f3d c3t6 f3t6 c3t7 f3t7
            go_wp2_with fail
            refine (from_doc _ _ _ _ _ _ _ _ _ _ _ _ _).mono ?_
            rintro e w5 ⟨rfl, hb5⟩
            have HB5 := Lib.hid hb5
            have sz5 := hb5.size
            (try simp at sz5)
            have B5r := Lib.hid (show w5.heap[w.heap.size + 1]? = some (.cells #[.string ⟨#[]⟩, .string ⟨#[]⟩, .int .i64 0, .string ⟨#[]⟩, .string ⟨#[]⟩, .string ⟨#[]⟩] 67 (0, 0)) from (hb5.block (w.heap.size + 1) (by first | omega | (simp; done) | (simp; omega))).trans (by (repeat (first | rw [alloc_before (by first | omega | (simp; done) | (simp; omega))] | rw [Below.heap_setCell _ _ _ _ (by first | (simp only; omega) | (simp; omega))])); exact B4r.out))
            have B5q := Lib.hid (show w5.heap[w.heap.size + 1 + 1]? = some (.cells #[.int .i64 0, .string ⟨#[]⟩] 69 (0, 0)) from (hb5.block (w.heap.size + 1 + 1) (by first | omega | (simp; done) | (simp; omega))).trans (by (repeat (first | rw [alloc_before (by first | omega | (simp; done) | (simp; omega))] | rw [Below.heap_setCell _ _ _ _ (by first | (simp only; omega) | (simp; omega))])); exact B4q.out))
            have c5r := fun o => cell_of_row w5 (w.heap.size + 1) o _ 67 (0, 0) B5r.out
            have f5r : ∀ o, w5.frozen? ⟨w.heap.size + 1, o, none⟩ = false := fun o => by simp [World.frozen?, B5r.out]
            have l5r : w.heap.size + 1 < w5.heap.size := by first | omega | (simp; omega)
            have c5q := fun o => cell_of_row w5 (w.heap.size + 1 + 1) o _ 69 (0, 0) B5q.out
            have f5q : ∀ o, w5.frozen? ⟨w.heap.size + 1 + 1, o, none⟩ = false := fun o => by simp [World.frozen?, B5q.out]
            have l5q : w.heap.size + 1 + 1 < w5.heap.size := by first | omega | (simp; omega)
            clear hb5 c4x f4x c4r f4r c4q f4q c4d f4d c4t6 f4t6 c4t7 f4t7 c4t9 f4t9
            go_wp2
            refine bodyPost_ret (v := (.tuple #[.agg #[.string ⟨#[]⟩, .string ⟨#[]⟩, .int .i64 0, .string ⟨#[]⟩, .string ⟨#[]⟩, .string ⟨#[]⟩], .agg #[.int .i64 c, .string z]])) (by simp [results, Tryz.results25, go_sem, c5r, f5r, c5q, f5q, l5r, l5q]) rfl ?_
            refine ⟨by rw [HR2.out]; rfl, ?_⟩
            ((repeat (first | with_reducible refine Below.setCell ?_ (by first | omega | (simp; done) | (simp; omega)) _ | with_reducible refine Below.drew ?_ | with_reducible refine Below.alloc ?_ (by first | omega | (simp; done) | (simp; omega)) _)); refine Below.trans ?_ (HB5.out.mono (by first | omega | (simp; done) | (simp; omega))); (repeat (first | with_reducible refine Below.setCell ?_ (by first | omega | (simp; done) | (simp; omega)) _ | with_reducible refine Below.drew ?_ | with_reducible refine Below.alloc ?_ (by first | omega | (simp; done) | (simp; omega)) _)); refine Below.trans ?_ (HB4.out.mono (by first | omega | (simp; done) | (simp; omega))); (repeat (first | with_reducible refine Below.setCell ?_ (by first | omega | (simp; done) | (simp; omega)) _ | with_reducible refine Below.drew ?_ | with_reducible refine Below.alloc ?_ (by first | omega | (simp; done) | (simp; omega)) _)); refine Below.trans ?_ (HB3.out.mono (by first | omega | (simp; done) | (simp; omega))); (repeat (first | with_reducible refine Below.setCell ?_ (by first | omega | (simp; done) | (simp; omega)) _ | with_reducible refine Below.drew ?_ | with_reducible refine Below.alloc ?_ (by first | omega | (simp; done) | (simp; omega)) _)); refine Below.trans ?_ (HB2.out.mono (by first | omega | (simp; done) | (simp; omega))); (repeat (first | with_reducible refine Below.setCell ?_ (by first | omega | (simp; done) | (simp; omega)) _ | with_reducible refine Below.drew ?_ | with_reducible refine Below.alloc ?_ (by first | omega | (simp; done) | (simp; omega)) _)); refine Below.trans ?_ (HB1.out.mono (by first | omega | (simp; done) | (simp; omega))); (repeat (first | with_reducible refine Below.setCell ?_ (by first | omega | (simp; done) | (simp; omega)) _ | with_reducible refine Below.drew ?_ | with_reducible refine Below.alloc ?_ (by first | omega | (simp; done) | (simp; omega)) _)); exact Below.refl _ _)
          | ok sz =>
            rw [hf] at h1
            have hsb : sz.bulk ≤ 4194304 := by have := V.get_bulk (fieldA_ok hf).2; omega
            have HF4 := Lib.hid hf
            obtain ⟨cs2, rfl, hrep2, hb4⟩ := h1
            obtain ⟨A2, ca2, B2, cb2, rfl, -⟩ := hrep2.open
            simp only [docCells, List.cons_append, List.nil_append]
            clear hf hrep2
            have HB4 := Lib.hid hb4
            have sz4 := hb4.size
            (try simp at sz4)
            have B4x := Lib.hid (show w4.heap[w.heap.size]? = some (.cells #[.int .i64 v.kind, .bool v.tr, .string v.text, .slice A v.list.length ca, .slice B v.names.length cb, .string p, .int .i64 0, .string ⟨#[]⟩] 46 (0, 0)) from (hb4.block (w.heap.size) (by first | omega | (simp; done) | (simp; omega))).trans (by (repeat (first | rw [alloc_before (by first | omega | (simp; done) | (simp; omega))] | rw [Below.heap_setCell _ _ _ _ (by first | (simp only; omega) | (simp; omega))])); exact B3x.out))
            have B4r := Lib.hid (show w4.heap[w.heap.size + 1]? = some (.cells #[.string ⟨#[]⟩, .string ⟨#[]⟩, .int .i64 0, .string ⟨#[]⟩, .string ⟨#[]⟩, .string ⟨#[]⟩] 67 (0, 0)) from (hb4.block (w.heap.size + 1) (by first | omega | (simp; done) | (simp; omega))).trans (by (repeat (first | rw [alloc_before (by first | omega | (simp; done) | (simp; omega))] | rw [Below.heap_setCell _ _ _ _ (by first | (simp only; omega) | (simp; omega))])); exact B3r.out))
            have B4q := Lib.hid (show w4.heap[w.heap.size + 1 + 1]? = some (.cells #[.int .i64 0, .string ⟨#[]⟩] 69 (0, 0)) from (hb4.block (w.heap.size + 1 + 1) (by first | omega | (simp; done) | (simp; omega))).trans (by (repeat (first | rw [alloc_before (by first | omega | (simp; done) | (simp; omega))] | rw [Below.heap_setCell _ _ _ _ (by first | (simp only; omega) | (simp; omega))])); exact B3q.out))
            have B4d := Lib.hid (show w4.heap[w.heap.size + 1 + 1 + 1]? = some (.cells #[.string s, .string dg, .int .i64 0, .string ⟨#[]⟩, .string ⟨#[]⟩, .string ⟨#[]⟩] 67 (0, 0)) from (hb4.block (w.heap.size + 1 + 1 + 1) (by first | omega | (simp; done) | (simp; omega))).trans (by (repeat (first | rw [alloc_before (by first | omega | (simp; done) | (simp; omega))] | rw [Below.heap_setCell _ _ _ _ (by first | (simp only; omega) | (simp; omega))])); refine (blk_set (cs := #[.string s, .string ⟨#[]⟩, .int .i64 0, .string ⟨#[]⟩, .string ⟨#[]⟩, .string ⟨#[]⟩]) ?_ _ _).trans rfl; (repeat (first | rw [alloc_before (by first | omega | (simp; done) | (simp; omega))] | rw [Below.heap_setCell _ _ _ _ (by first | (simp only; omega) | (simp; omega))])); exact B3d.out))
            have B4t6 := Lib.hid (show w4.heap[w1.heap.size]? = some (.cells #[.int .i64 0, .string ⟨#[]⟩] 69 (0, 0)) from (hb4.block (w1.heap.size) (by first | omega | (simp; done) | (simp; omega))).trans (by (repeat (first | rw [alloc_before (by first | omega | (simp; done) | (simp; omega))] | rw [Below.heap_setCell _ _ _ _ (by first | (simp only; omega) | (simp; omega))])); exact B3t6.out))
            have B4t7 := Lib.hid (show w4.heap[w2.heap.size]? = some (.cells #[.int .i64 u.kind, .bool u.tr, .string u.text, .slice A1 u.list.length ca1, .slice B1 u.names.length cb1, .string (fieldPlace p ⟨#[100, 105, 103, 101, 115, 116]⟩), .int .i64 0, .string ⟨#[]⟩] 46 (0, 0)) from (hb4.block (w2.heap.size) (by first | omega | (simp; done) | (simp; omega))).trans (by (repeat (first | rw [alloc_before (by first | omega | (simp; done) | (simp; omega))] | rw [Below.heap_setCell _ _ _ _ (by first | (simp only; omega) | (simp; omega))])); exact B3t7.out))
            have B4t9 := Lib.hid (show w4.heap[w3.heap.size]? = some (.cells #[.int .i64 0, .bool false, .string ⟨#[]⟩, .slice none 0 0, .slice none 0 0, .string ⟨#[]⟩, .int .i64 0, .string ⟨#[]⟩] 46 (0, 0)) from (hb4.block (w3.heap.size) (by first | omega | (simp; done) | (simp; omega))).trans (by (repeat (first | rw [alloc_before (by first | omega | (simp; done) | (simp; omega))] | rw [Below.heap_setCell _ _ _ _ (by first | (simp only; omega) | (simp; omega))])); exact alloc_at (by simp)))
            have c4x := fun o => cell_of_row w4 (w.heap.size) o _ 46 (0, 0) B4x.out
            have f4x : ∀ o, w4.frozen? ⟨w.heap.size, o, none⟩ = false := fun o => by simp [World.frozen?, B4x.out]
            have l4x : w.heap.size < w4.heap.size := by first | omega | (simp; omega)
            have c4r := fun o => cell_of_row w4 (w.heap.size + 1) o _ 67 (0, 0) B4r.out
            have f4r : ∀ o, w4.frozen? ⟨w.heap.size + 1, o, none⟩ = false := fun o => by simp [World.frozen?, B4r.out]
            have l4r : w.heap.size + 1 < w4.heap.size := by first | omega | (simp; omega)
            have c4q := fun o => cell_of_row w4 (w.heap.size + 1 + 1) o _ 69 (0, 0) B4q.out
            have f4q : ∀ o, w4.frozen? ⟨w.heap.size + 1 + 1, o, none⟩ = false := fun o => by simp [World.frozen?, B4q.out]
            have l4q : w.heap.size + 1 + 1 < w4.heap.size := by first | omega | (simp; omega)
            have c4d := fun o => cell_of_row w4 (w.heap.size + 1 + 1 + 1) o _ 67 (0, 0) B4d.out
            have f4d : ∀ o, w4.frozen? ⟨w.heap.size + 1 + 1 + 1, o, none⟩ = false := fun o => by simp [World.frozen?, B4d.out]
            have l4d : w.heap.size + 1 + 1 + 1 < w4.heap.size := by first | omega | (simp; omega)
            have c4t6 := fun o => cell_of_row w4 (w1.heap.size) o _ 69 (0, 0) B4t6.out
            have f4t6 : ∀ o, w4.frozen? ⟨w1.heap.size, o, none⟩ = false := fun o => by simp [World.frozen?, B4t6.out]
            have l4t6 : w1.heap.size < w4.heap.size := by first | omega | (simp; omega)
            have c4t7 := fun o => cell_of_row w4 (w2.heap.size) o _ 46 (0, 0) B4t7.out
            have f4t7 : ∀ o, w4.frozen? ⟨w2.heap.size, o, none⟩ = false := fun o => by simp [World.frozen?, B4t7.out]
            have l4t7 : w2.heap.size < w4.heap.size := by first | omega | (simp; omega)
            have c4t9 := fun o => cell_of_row w4 (w3.heap.size) o _ 46 (0, 0) B4t9.out
            have f4t9 : ∀ o, w4.frozen? ⟨w3.heap.size, o, none⟩ = false := fun o => by simp [World.frozen?, B4t9.out]
            have l4t9 : w3.heap.size < w4.heap.size := by first | omega | (simp; omega)
            have nxt9 : ¬ w.heap.size = w3.heap.size := by omega
            have nt9x : ¬ w3.heap.size = w.heap.size := by omega
            have nrt9 : ¬ w.heap.size + 1 = w3.heap.size := by omega
            have nt9r : ¬ w3.heap.size = w.heap.size + 1 := by omega
            have nqt9 : ¬ w.heap.size + 1 + 1 = w3.heap.size := by omega
            have nt9q : ¬ w3.heap.size = w.heap.size + 1 + 1 := by omega
            have ndt9 : ¬ w.heap.size + 1 + 1 + 1 = w3.heap.size := by omega
            have nt9d : ¬ w3.heap.size = w.heap.size + 1 + 1 + 1 := by omega
            have nt6t9 : ¬ w1.heap.size = w3.heap.size := by omega
            have nt9t6 : ¬ w3.heap.size = w1.heap.size := by omega
            have nt7t9 : ¬ w2.heap.size = w3.heap.size := by omega
            have nt9t7 : ¬ w3.heap.size = w2.heap.size := by omega
            clear hb4 c3x f3x c3r f3r c3q f3q c3d f3d c3t6 f3t6 c3t7 f3t7
            go_wp2_with fail
            refine (dwhole_any sz A2 _ ca2 B2 _ cb2 (fieldPlace p ⟨#[115, 105, 122, 101]⟩) 0 1048576 _ hsb).mono ?_
            rintro e w5 h1
            cases hf : wholeA sz (fieldPlace p ⟨#[115, 105, 122, 101]⟩) 0 1048576 with
            | error b =>
              rw [hf] at h1
              have hcode := wholeA_codes hf
              obtain ⟨c, z⟩ := b
              have HR2 := Lib.hid (show r = .error (c, z) by rw [← HR.out]; unfold takeA; unfold nMedia; rw [HF1.out]; simp only []; rw [HD.out]; simp only []; unfold sizeA nSize; rw [HF4.out]; simp only []; rw [hf])
              have h1' : e = .returned (.tuple #[.int .i64 0, docBad c z]) ∧ Below _ _ w5 := h1
              obtain ⟨rfl, hb5⟩ := h1'
              have hc0 : (c != 0) = true := by simpa using hcode
              simp only [docBad]
              clear hf hcode h1
              have HB5 := Lib.hid hb5
              have sz5 := hb5.size
              (try simp at sz5)
              have B5x := Lib.hid (show w5.heap[w.heap.size]? = some (.cells #[.int .i64 v.kind, .bool v.tr, .string v.text, .slice A v.list.length ca, .slice B v.names.length cb, .string p, .int .i64 0, .string ⟨#[]⟩] 46 (0, 0)) from (hb5.block (w.heap.size) (by first | omega | (simp; done) | (simp; omega))).trans (by (repeat (first | rw [alloc_before (by first | omega | (simp; done) | (simp; omega))] | rw [Below.heap_setCell _ _ _ _ (by first | (simp only; omega) | (simp; omega))])); exact B4x.out))
              have B5r := Lib.hid (show w5.heap[w.heap.size + 1]? = some (.cells #[.string ⟨#[]⟩, .string ⟨#[]⟩, .int .i64 0, .string ⟨#[]⟩, .string ⟨#[]⟩, .string ⟨#[]⟩] 67 (0, 0)) from (hb5.block (w.heap.size + 1) (by first | omega | (simp; done) | (simp; omega))).trans (by (repeat (first | rw [alloc_before (by first | omega | (simp; done) | (simp; omega))] | rw [Below.heap_setCell _ _ _ _ (by first | (simp only; omega) | (simp; omega))])); exact B4r.out))
              have B5q := Lib.hid (show w5.heap[w.heap.size + 1 + 1]? = some (.cells #[.int .i64 0, .string ⟨#[]⟩] 69 (0, 0)) from (hb5.block (w.heap.size + 1 + 1) (by first | omega | (simp; done) | (simp; omega))).trans (by (repeat (first | rw [alloc_before (by first | omega | (simp; done) | (simp; omega))] | rw [Below.heap_setCell _ _ _ _ (by first | (simp only; omega) | (simp; omega))])); exact B4q.out))
              have B5d := Lib.hid (show w5.heap[w.heap.size + 1 + 1 + 1]? = some (.cells #[.string s, .string dg, .int .i64 0, .string ⟨#[]⟩, .string ⟨#[]⟩, .string ⟨#[]⟩] 67 (0, 0)) from (hb5.block (w.heap.size + 1 + 1 + 1) (by first | omega | (simp; done) | (simp; omega))).trans (by (repeat (first | rw [alloc_before (by first | omega | (simp; done) | (simp; omega))] | rw [Below.heap_setCell _ _ _ _ (by first | (simp only; omega) | (simp; omega))])); exact B4d.out))
              have B5t6 := Lib.hid (show w5.heap[w1.heap.size]? = some (.cells #[.int .i64 0, .string ⟨#[]⟩] 69 (0, 0)) from (hb5.block (w1.heap.size) (by first | omega | (simp; done) | (simp; omega))).trans (by (repeat (first | rw [alloc_before (by first | omega | (simp; done) | (simp; omega))] | rw [Below.heap_setCell _ _ _ _ (by first | (simp only; omega) | (simp; omega))])); exact B4t6.out))
              have B5t7 := Lib.hid (show w5.heap[w2.heap.size]? = some (.cells #[.int .i64 sz.kind, .bool sz.tr, .string sz.text, .slice A2 sz.list.length ca2, .slice B2 sz.names.length cb2, .string (fieldPlace p ⟨#[115, 105, 122, 101]⟩), .int .i64 0, .string ⟨#[]⟩] 46 (0, 0)) from (hb5.block (w2.heap.size) (by first | omega | (simp; done) | (simp; omega))).trans (by (repeat (first | rw [alloc_before (by first | omega | (simp; done) | (simp; omega))] | rw [Below.heap_setCell _ _ _ _ (by first | (simp only; omega) | (simp; omega))])); refine (blk_set (cs := #[.int .i64 sz.kind, .bool sz.tr, .string sz.text, .slice A2 sz.list.length ca2, .slice B2 sz.names.length cb2, .string (fieldPlace p ⟨#[115, 105, 122, 101]⟩), .int .i64 0, .string ⟨#[]⟩]) ?_ _ _).trans rfl; (repeat (first | rw [alloc_before (by first | omega | (simp; done) | (simp; omega))] | rw [Below.heap_setCell _ _ _ _ (by first | (simp only; omega) | (simp; omega))])); refine (blk_set (cs := #[.int .i64 sz.kind, .bool sz.tr, .string sz.text, .slice A2 sz.list.length ca2, .slice B2 sz.names.length cb2, .string (fieldPlace p ⟨#[115, 105, 122, 101]⟩), .int .i64 0, .string ⟨#[]⟩]) ?_ _ _).trans rfl; (repeat (first | rw [alloc_before (by first | omega | (simp; done) | (simp; omega))] | rw [Below.heap_setCell _ _ _ _ (by first | (simp only; omega) | (simp; omega))])); refine (blk_set (cs := #[.int .i64 sz.kind, .bool sz.tr, .string sz.text, .slice A2 sz.list.length ca2, .slice B2 sz.names.length cb2, .string (fieldPlace p ⟨#[100, 105, 103, 101, 115, 116]⟩), .int .i64 0, .string ⟨#[]⟩]) ?_ _ _).trans rfl; (repeat (first | rw [alloc_before (by first | omega | (simp; done) | (simp; omega))] | rw [Below.heap_setCell _ _ _ _ (by first | (simp only; omega) | (simp; omega))])); refine (blk_set (cs := #[.int .i64 sz.kind, .bool sz.tr, .string sz.text, .slice A2 sz.list.length ca2, .slice B1 u.names.length cb1, .string (fieldPlace p ⟨#[100, 105, 103, 101, 115, 116]⟩), .int .i64 0, .string ⟨#[]⟩]) ?_ _ _).trans rfl; (repeat (first | rw [alloc_before (by first | omega | (simp; done) | (simp; omega))] | rw [Below.heap_setCell _ _ _ _ (by first | (simp only; omega) | (simp; omega))])); refine (blk_set (cs := #[.int .i64 sz.kind, .bool sz.tr, .string sz.text, .slice A1 u.list.length ca1, .slice B1 u.names.length cb1, .string (fieldPlace p ⟨#[100, 105, 103, 101, 115, 116]⟩), .int .i64 0, .string ⟨#[]⟩]) ?_ _ _).trans rfl; (repeat (first | rw [alloc_before (by first | omega | (simp; done) | (simp; omega))] | rw [Below.heap_setCell _ _ _ _ (by first | (simp only; omega) | (simp; omega))])); refine (blk_set (cs := #[.int .i64 sz.kind, .bool sz.tr, .string u.text, .slice A1 u.list.length ca1, .slice B1 u.names.length cb1, .string (fieldPlace p ⟨#[100, 105, 103, 101, 115, 116]⟩), .int .i64 0, .string ⟨#[]⟩]) ?_ _ _).trans rfl; (repeat (first | rw [alloc_before (by first | omega | (simp; done) | (simp; omega))] | rw [Below.heap_setCell _ _ _ _ (by first | (simp only; omega) | (simp; omega))])); refine (blk_set (cs := #[.int .i64 sz.kind, .bool u.tr, .string u.text, .slice A1 u.list.length ca1, .slice B1 u.names.length cb1, .string (fieldPlace p ⟨#[100, 105, 103, 101, 115, 116]⟩), .int .i64 0, .string ⟨#[]⟩]) ?_ _ _).trans rfl; (repeat (first | rw [alloc_before (by first | omega | (simp; done) | (simp; omega))] | rw [Below.heap_setCell _ _ _ _ (by first | (simp only; omega) | (simp; omega))])); refine (blk_set (cs := #[.int .i64 u.kind, .bool u.tr, .string u.text, .slice A1 u.list.length ca1, .slice B1 u.names.length cb1, .string (fieldPlace p ⟨#[100, 105, 103, 101, 115, 116]⟩), .int .i64 0, .string ⟨#[]⟩]) ?_ _ _).trans rfl; (repeat (first | rw [alloc_before (by first | omega | (simp; done) | (simp; omega))] | rw [Below.heap_setCell _ _ _ _ (by first | (simp only; omega) | (simp; omega))])); exact B4t7.out))
              have B5t9 := Lib.hid (show w5.heap[w3.heap.size]? = some (.cells #[.int .i64 0, .bool false, .string ⟨#[]⟩, .slice none 0 0, .slice none 0 0, .string ⟨#[]⟩, .int .i64 0, .string ⟨#[]⟩] 46 (0, 0)) from (hb5.block (w3.heap.size) (by first | omega | (simp; done) | (simp; omega))).trans (by (repeat (first | rw [alloc_before (by first | omega | (simp; done) | (simp; omega))] | rw [Below.heap_setCell _ _ _ _ (by first | (simp only; omega) | (simp; omega))])); exact B4t9.out))
              have c5x := fun o => cell_of_row w5 (w.heap.size) o _ 46 (0, 0) B5x.out
              have f5x : ∀ o, w5.frozen? ⟨w.heap.size, o, none⟩ = false := fun o => by simp [World.frozen?, B5x.out]
              have l5x : w.heap.size < w5.heap.size := by first | omega | (simp; omega)
              have c5r := fun o => cell_of_row w5 (w.heap.size + 1) o _ 67 (0, 0) B5r.out
              have f5r : ∀ o, w5.frozen? ⟨w.heap.size + 1, o, none⟩ = false := fun o => by simp [World.frozen?, B5r.out]
              have l5r : w.heap.size + 1 < w5.heap.size := by first | omega | (simp; omega)
              have c5q := fun o => cell_of_row w5 (w.heap.size + 1 + 1) o _ 69 (0, 0) B5q.out
              have f5q : ∀ o, w5.frozen? ⟨w.heap.size + 1 + 1, o, none⟩ = false := fun o => by simp [World.frozen?, B5q.out]
              have l5q : w.heap.size + 1 + 1 < w5.heap.size := by first | omega | (simp; omega)
              have c5d := fun o => cell_of_row w5 (w.heap.size + 1 + 1 + 1) o _ 67 (0, 0) B5d.out
              have f5d : ∀ o, w5.frozen? ⟨w.heap.size + 1 + 1 + 1, o, none⟩ = false := fun o => by simp [World.frozen?, B5d.out]
              have l5d : w.heap.size + 1 + 1 + 1 < w5.heap.size := by first | omega | (simp; omega)
              have c5t6 := fun o => cell_of_row w5 (w1.heap.size) o _ 69 (0, 0) B5t6.out
              have f5t6 : ∀ o, w5.frozen? ⟨w1.heap.size, o, none⟩ = false := fun o => by simp [World.frozen?, B5t6.out]
              have l5t6 : w1.heap.size < w5.heap.size := by first | omega | (simp; omega)
              have c5t7 := fun o => cell_of_row w5 (w2.heap.size) o _ 46 (0, 0) B5t7.out
              have f5t7 : ∀ o, w5.frozen? ⟨w2.heap.size, o, none⟩ = false := fun o => by simp [World.frozen?, B5t7.out]
              have l5t7 : w2.heap.size < w5.heap.size := by first | omega | (simp; omega)
              have c5t9 := fun o => cell_of_row w5 (w3.heap.size) o _ 46 (0, 0) B5t9.out
              have f5t9 : ∀ o, w5.frozen? ⟨w3.heap.size, o, none⟩ = false := fun o => by simp [World.frozen?, B5t9.out]
              have l5t9 : w3.heap.size < w5.heap.size := by first | omega | (simp; omega)
              clear hb5 c4x f4x c4r f4r c4q f4q c4d f4d c4t6 f4t6 c4t7 f4t7 c4t9 f4t9
              go_wp2_with fail
              refine (from_doc _ _ _ _ _ _ _ _ _ _ _ _ _).mono ?_
              rintro e w6 ⟨rfl, hb6⟩
              have HB6 := Lib.hid hb6
              have sz6 := hb6.size
              (try simp at sz6)
              have B6r := Lib.hid (show w6.heap[w.heap.size + 1]? = some (.cells #[.string ⟨#[]⟩, .string ⟨#[]⟩, .int .i64 0, .string ⟨#[]⟩, .string ⟨#[]⟩, .string ⟨#[]⟩] 67 (0, 0)) from (hb6.block (w.heap.size + 1) (by first | omega | (simp; done) | (simp; omega))).trans (by (repeat (first | rw [alloc_before (by first | omega | (simp; done) | (simp; omega))] | rw [Below.heap_setCell _ _ _ _ (by first | (simp only; omega) | (simp; omega))])); exact B5r.out))
              have B6q := Lib.hid (show w6.heap[w.heap.size + 1 + 1]? = some (.cells #[.int .i64 0, .string ⟨#[]⟩] 69 (0, 0)) from (hb6.block (w.heap.size + 1 + 1) (by first | omega | (simp; done) | (simp; omega))).trans (by (repeat (first | rw [alloc_before (by first | omega | (simp; done) | (simp; omega))] | rw [Below.heap_setCell _ _ _ _ (by first | (simp only; omega) | (simp; omega))])); exact B5q.out))
              have c6r := fun o => cell_of_row w6 (w.heap.size + 1) o _ 67 (0, 0) B6r.out
              have f6r : ∀ o, w6.frozen? ⟨w.heap.size + 1, o, none⟩ = false := fun o => by simp [World.frozen?, B6r.out]
              have l6r : w.heap.size + 1 < w6.heap.size := by first | omega | (simp; omega)
              have c6q := fun o => cell_of_row w6 (w.heap.size + 1 + 1) o _ 69 (0, 0) B6q.out
              have f6q : ∀ o, w6.frozen? ⟨w.heap.size + 1 + 1, o, none⟩ = false := fun o => by simp [World.frozen?, B6q.out]
              have l6q : w.heap.size + 1 + 1 < w6.heap.size := by first | omega | (simp; omega)
              clear hb6 c5x f5x c5r f5r c5q f5q c5d f5d c5t6 f5t6 c5t7 f5t7 c5t9 f5t9
              go_wp2
              refine bodyPost_ret (v := (.tuple #[.agg #[.string ⟨#[]⟩, .string ⟨#[]⟩, .int .i64 0, .string ⟨#[]⟩, .string ⟨#[]⟩, .string ⟨#[]⟩], .agg #[.int .i64 c, .string z]])) (by simp [results, Tryz.results25, go_sem, c6r, f6r, c6q, f6q, l6r, l6q]) rfl ?_
              refine ⟨by rw [HR2.out]; rfl, ?_⟩
              ((repeat (first | with_reducible refine Below.setCell ?_ (by first | omega | (simp; done) | (simp; omega)) _ | with_reducible refine Below.drew ?_ | with_reducible refine Below.alloc ?_ (by first | omega | (simp; done) | (simp; omega)) _)); refine Below.trans ?_ (HB6.out.mono (by first | omega | (simp; done) | (simp; omega))); (repeat (first | with_reducible refine Below.setCell ?_ (by first | omega | (simp; done) | (simp; omega)) _ | with_reducible refine Below.drew ?_ | with_reducible refine Below.alloc ?_ (by first | omega | (simp; done) | (simp; omega)) _)); refine Below.trans ?_ (HB5.out.mono (by first | omega | (simp; done) | (simp; omega))); (repeat (first | with_reducible refine Below.setCell ?_ (by first | omega | (simp; done) | (simp; omega)) _ | with_reducible refine Below.drew ?_ | with_reducible refine Below.alloc ?_ (by first | omega | (simp; done) | (simp; omega)) _)); refine Below.trans ?_ (HB4.out.mono (by first | omega | (simp; done) | (simp; omega))); (repeat (first | with_reducible refine Below.setCell ?_ (by first | omega | (simp; done) | (simp; omega)) _ | with_reducible refine Below.drew ?_ | with_reducible refine Below.alloc ?_ (by first | omega | (simp; done) | (simp; omega)) _)); refine Below.trans ?_ (HB3.out.mono (by first | omega | (simp; done) | (simp; omega))); (repeat (first | with_reducible refine Below.setCell ?_ (by first | omega | (simp; done) | (simp; omega)) _ | with_reducible refine Below.drew ?_ | with_reducible refine Below.alloc ?_ (by first | omega | (simp; done) | (simp; omega)) _)); refine Below.trans ?_ (HB2.out.mono (by first | omega | (simp; done) | (simp; omega))); (repeat (first | with_reducible refine Below.setCell ?_ (by first | omega | (simp; done) | (simp; omega)) _ | with_reducible refine Below.drew ?_ | with_reducible refine Below.alloc ?_ (by first | omega | (simp; done) | (simp; omega)) _)); refine Below.trans ?_ (HB1.out.mono (by first | omega | (simp; done) | (simp; omega))); (repeat (first | with_reducible refine Below.setCell ?_ (by first | omega | (simp; done) | (simp; omega)) _ | with_reducible refine Below.drew ?_ | with_reducible refine Below.alloc ?_ (by first | omega | (simp; done) | (simp; omega)) _)); exact Below.refl _ _)
            | ok q =>
              rw [hf] at h1
              have HZ := Lib.hid (show sizeA v p = .ok q by unfold sizeA nSize; rw [HF4.out]; simp only []; rw [hf])
              have h1' : e = .returned (.tuple #[.int .i64 q, docBad 0 ⟨#[]⟩]) ∧ Below _ _ w5 := h1
              obtain ⟨rfl, hb5⟩ := h1'
              simp only [docBad]
              clear hf h1
              have HB5 := Lib.hid hb5
              have sz5 := hb5.size
              (try simp at sz5)
              have B5x := Lib.hid (show w5.heap[w.heap.size]? = some (.cells #[.int .i64 v.kind, .bool v.tr, .string v.text, .slice A v.list.length ca, .slice B v.names.length cb, .string p, .int .i64 0, .string ⟨#[]⟩] 46 (0, 0)) from (hb5.block (w.heap.size) (by first | omega | (simp; done) | (simp; omega))).trans (by (repeat (first | rw [alloc_before (by first | omega | (simp; done) | (simp; omega))] | rw [Below.heap_setCell _ _ _ _ (by first | (simp only; omega) | (simp; omega))])); exact B4x.out))
              have B5r := Lib.hid (show w5.heap[w.heap.size + 1]? = some (.cells #[.string ⟨#[]⟩, .string ⟨#[]⟩, .int .i64 0, .string ⟨#[]⟩, .string ⟨#[]⟩, .string ⟨#[]⟩] 67 (0, 0)) from (hb5.block (w.heap.size + 1) (by first | omega | (simp; done) | (simp; omega))).trans (by (repeat (first | rw [alloc_before (by first | omega | (simp; done) | (simp; omega))] | rw [Below.heap_setCell _ _ _ _ (by first | (simp only; omega) | (simp; omega))])); exact B4r.out))
              have B5q := Lib.hid (show w5.heap[w.heap.size + 1 + 1]? = some (.cells #[.int .i64 0, .string ⟨#[]⟩] 69 (0, 0)) from (hb5.block (w.heap.size + 1 + 1) (by first | omega | (simp; done) | (simp; omega))).trans (by (repeat (first | rw [alloc_before (by first | omega | (simp; done) | (simp; omega))] | rw [Below.heap_setCell _ _ _ _ (by first | (simp only; omega) | (simp; omega))])); exact B4q.out))
              have B5d := Lib.hid (show w5.heap[w.heap.size + 1 + 1 + 1]? = some (.cells #[.string s, .string dg, .int .i64 0, .string ⟨#[]⟩, .string ⟨#[]⟩, .string ⟨#[]⟩] 67 (0, 0)) from (hb5.block (w.heap.size + 1 + 1 + 1) (by first | omega | (simp; done) | (simp; omega))).trans (by (repeat (first | rw [alloc_before (by first | omega | (simp; done) | (simp; omega))] | rw [Below.heap_setCell _ _ _ _ (by first | (simp only; omega) | (simp; omega))])); exact B4d.out))
              have B5t6 := Lib.hid (show w5.heap[w1.heap.size]? = some (.cells #[.int .i64 0, .string ⟨#[]⟩] 69 (0, 0)) from (hb5.block (w1.heap.size) (by first | omega | (simp; done) | (simp; omega))).trans (by (repeat (first | rw [alloc_before (by first | omega | (simp; done) | (simp; omega))] | rw [Below.heap_setCell _ _ _ _ (by first | (simp only; omega) | (simp; omega))])); exact B4t6.out))
              have B5t7 := Lib.hid (show w5.heap[w2.heap.size]? = some (.cells #[.int .i64 sz.kind, .bool sz.tr, .string sz.text, .slice A2 sz.list.length ca2, .slice B2 sz.names.length cb2, .string (fieldPlace p ⟨#[115, 105, 122, 101]⟩), .int .i64 0, .string ⟨#[]⟩] 46 (0, 0)) from (hb5.block (w2.heap.size) (by first | omega | (simp; done) | (simp; omega))).trans (by (repeat (first | rw [alloc_before (by first | omega | (simp; done) | (simp; omega))] | rw [Below.heap_setCell _ _ _ _ (by first | (simp only; omega) | (simp; omega))])); refine (blk_set (cs := #[.int .i64 sz.kind, .bool sz.tr, .string sz.text, .slice A2 sz.list.length ca2, .slice B2 sz.names.length cb2, .string (fieldPlace p ⟨#[115, 105, 122, 101]⟩), .int .i64 0, .string ⟨#[]⟩]) ?_ _ _).trans rfl; (repeat (first | rw [alloc_before (by first | omega | (simp; done) | (simp; omega))] | rw [Below.heap_setCell _ _ _ _ (by first | (simp only; omega) | (simp; omega))])); refine (blk_set (cs := #[.int .i64 sz.kind, .bool sz.tr, .string sz.text, .slice A2 sz.list.length ca2, .slice B2 sz.names.length cb2, .string (fieldPlace p ⟨#[115, 105, 122, 101]⟩), .int .i64 0, .string ⟨#[]⟩]) ?_ _ _).trans rfl; (repeat (first | rw [alloc_before (by first | omega | (simp; done) | (simp; omega))] | rw [Below.heap_setCell _ _ _ _ (by first | (simp only; omega) | (simp; omega))])); refine (blk_set (cs := #[.int .i64 sz.kind, .bool sz.tr, .string sz.text, .slice A2 sz.list.length ca2, .slice B2 sz.names.length cb2, .string (fieldPlace p ⟨#[100, 105, 103, 101, 115, 116]⟩), .int .i64 0, .string ⟨#[]⟩]) ?_ _ _).trans rfl; (repeat (first | rw [alloc_before (by first | omega | (simp; done) | (simp; omega))] | rw [Below.heap_setCell _ _ _ _ (by first | (simp only; omega) | (simp; omega))])); refine (blk_set (cs := #[.int .i64 sz.kind, .bool sz.tr, .string sz.text, .slice A2 sz.list.length ca2, .slice B1 u.names.length cb1, .string (fieldPlace p ⟨#[100, 105, 103, 101, 115, 116]⟩), .int .i64 0, .string ⟨#[]⟩]) ?_ _ _).trans rfl; (repeat (first | rw [alloc_before (by first | omega | (simp; done) | (simp; omega))] | rw [Below.heap_setCell _ _ _ _ (by first | (simp only; omega) | (simp; omega))])); refine (blk_set (cs := #[.int .i64 sz.kind, .bool sz.tr, .string sz.text, .slice A1 u.list.length ca1, .slice B1 u.names.length cb1, .string (fieldPlace p ⟨#[100, 105, 103, 101, 115, 116]⟩), .int .i64 0, .string ⟨#[]⟩]) ?_ _ _).trans rfl; (repeat (first | rw [alloc_before (by first | omega | (simp; done) | (simp; omega))] | rw [Below.heap_setCell _ _ _ _ (by first | (simp only; omega) | (simp; omega))])); refine (blk_set (cs := #[.int .i64 sz.kind, .bool sz.tr, .string u.text, .slice A1 u.list.length ca1, .slice B1 u.names.length cb1, .string (fieldPlace p ⟨#[100, 105, 103, 101, 115, 116]⟩), .int .i64 0, .string ⟨#[]⟩]) ?_ _ _).trans rfl; (repeat (first | rw [alloc_before (by first | omega | (simp; done) | (simp; omega))] | rw [Below.heap_setCell _ _ _ _ (by first | (simp only; omega) | (simp; omega))])); refine (blk_set (cs := #[.int .i64 sz.kind, .bool u.tr, .string u.text, .slice A1 u.list.length ca1, .slice B1 u.names.length cb1, .string (fieldPlace p ⟨#[100, 105, 103, 101, 115, 116]⟩), .int .i64 0, .string ⟨#[]⟩]) ?_ _ _).trans rfl; (repeat (first | rw [alloc_before (by first | omega | (simp; done) | (simp; omega))] | rw [Below.heap_setCell _ _ _ _ (by first | (simp only; omega) | (simp; omega))])); refine (blk_set (cs := #[.int .i64 u.kind, .bool u.tr, .string u.text, .slice A1 u.list.length ca1, .slice B1 u.names.length cb1, .string (fieldPlace p ⟨#[100, 105, 103, 101, 115, 116]⟩), .int .i64 0, .string ⟨#[]⟩]) ?_ _ _).trans rfl; (repeat (first | rw [alloc_before (by first | omega | (simp; done) | (simp; omega))] | rw [Below.heap_setCell _ _ _ _ (by first | (simp only; omega) | (simp; omega))])); exact B4t7.out))
              have B5t9 := Lib.hid (show w5.heap[w3.heap.size]? = some (.cells #[.int .i64 0, .bool false, .string ⟨#[]⟩, .slice none 0 0, .slice none 0 0, .string ⟨#[]⟩, .int .i64 0, .string ⟨#[]⟩] 46 (0, 0)) from (hb5.block (w3.heap.size) (by first | omega | (simp; done) | (simp; omega))).trans (by (repeat (first | rw [alloc_before (by first | omega | (simp; done) | (simp; omega))] | rw [Below.heap_setCell _ _ _ _ (by first | (simp only; omega) | (simp; omega))])); exact B4t9.out))
              have c5x := fun o => cell_of_row w5 (w.heap.size) o _ 46 (0, 0) B5x.out
              have f5x : ∀ o, w5.frozen? ⟨w.heap.size, o, none⟩ = false := fun o => by simp [World.frozen?, B5x.out]
              have l5x : w.heap.size < w5.heap.size := by first | omega | (simp; omega)
              have c5r := fun o => cell_of_row w5 (w.heap.size + 1) o _ 67 (0, 0) B5r.out
              have f5r : ∀ o, w5.frozen? ⟨w.heap.size + 1, o, none⟩ = false := fun o => by simp [World.frozen?, B5r.out]
              have l5r : w.heap.size + 1 < w5.heap.size := by first | omega | (simp; omega)
              have c5q := fun o => cell_of_row w5 (w.heap.size + 1 + 1) o _ 69 (0, 0) B5q.out
              have f5q : ∀ o, w5.frozen? ⟨w.heap.size + 1 + 1, o, none⟩ = false := fun o => by simp [World.frozen?, B5q.out]
              have l5q : w.heap.size + 1 + 1 < w5.heap.size := by first | omega | (simp; omega)
              have c5d := fun o => cell_of_row w5 (w.heap.size + 1 + 1 + 1) o _ 67 (0, 0) B5d.out
              have f5d : ∀ o, w5.frozen? ⟨w.heap.size + 1 + 1 + 1, o, none⟩ = false := fun o => by simp [World.frozen?, B5d.out]
              have l5d : w.heap.size + 1 + 1 + 1 < w5.heap.size := by first | omega | (simp; omega)
              have c5t6 := fun o => cell_of_row w5 (w1.heap.size) o _ 69 (0, 0) B5t6.out
              have f5t6 : ∀ o, w5.frozen? ⟨w1.heap.size, o, none⟩ = false := fun o => by simp [World.frozen?, B5t6.out]
              have l5t6 : w1.heap.size < w5.heap.size := by first | omega | (simp; omega)
              have c5t7 := fun o => cell_of_row w5 (w2.heap.size) o _ 46 (0, 0) B5t7.out
              have f5t7 : ∀ o, w5.frozen? ⟨w2.heap.size, o, none⟩ = false := fun o => by simp [World.frozen?, B5t7.out]
              have l5t7 : w2.heap.size < w5.heap.size := by first | omega | (simp; omega)
              have c5t9 := fun o => cell_of_row w5 (w3.heap.size) o _ 46 (0, 0) B5t9.out
              have f5t9 : ∀ o, w5.frozen? ⟨w3.heap.size, o, none⟩ = false := fun o => by simp [World.frozen?, B5t9.out]
              have l5t9 : w3.heap.size < w5.heap.size := by first | omega | (simp; omega)
              clear hb5 c4x f4x c4r f4r c4q f4q c4d f4d c4t6 f4t6 c4t7 f4t7 c4t9 f4t9
              go_wp2_with fail
              refine (G4.out _ (by exact HV.out.agree fun b hb hlt => ⟨Below.block (B := w.heap.size) (by ((repeat (first | with_reducible refine Below.setCell ?_ (by first | omega | (simp; done) | (simp; omega)) _ | with_reducible refine Below.drew ?_ | with_reducible refine Below.alloc ?_ (by first | omega | (simp; done) | (simp; omega)) _)); refine Below.trans ?_ (HB5.out.mono (by first | omega | (simp; done) | (simp; omega))); (repeat (first | with_reducible refine Below.setCell ?_ (by first | omega | (simp; done) | (simp; omega)) _ | with_reducible refine Below.drew ?_ | with_reducible refine Below.alloc ?_ (by first | omega | (simp; done) | (simp; omega)) _)); refine Below.trans ?_ (HB4.out.mono (by first | omega | (simp; done) | (simp; omega))); (repeat (first | with_reducible refine Below.setCell ?_ (by first | omega | (simp; done) | (simp; omega)) _ | with_reducible refine Below.drew ?_ | with_reducible refine Below.alloc ?_ (by first | omega | (simp; done) | (simp; omega)) _)); refine Below.trans ?_ (HB3.out.mono (by first | omega | (simp; done) | (simp; omega))); (repeat (first | with_reducible refine Below.setCell ?_ (by first | omega | (simp; done) | (simp; omega)) _ | with_reducible refine Below.drew ?_ | with_reducible refine Below.alloc ?_ (by first | omega | (simp; done) | (simp; omega)) _)); refine Below.trans ?_ (HB2.out.mono (by first | omega | (simp; done) | (simp; omega))); (repeat (first | with_reducible refine Below.setCell ?_ (by first | omega | (simp; done) | (simp; omega)) _ | with_reducible refine Below.drew ?_ | with_reducible refine Below.alloc ?_ (by first | omega | (simp; done) | (simp; omega)) _)); refine Below.trans ?_ (HB1.out.mono (by first | omega | (simp; done) | (simp; omega))); (repeat (first | with_reducible refine Below.setCell ?_ (by first | omega | (simp; done) | (simp; omega)) _ | with_reducible refine Below.drew ?_ | with_reducible refine Below.alloc ?_ (by first | omega | (simp; done) | (simp; omega)) _)); exact Below.refl _ _)) b hlt, hb⟩) HK.out).mono ?_
              rintro e w6 h1
              cases hf : v.maybe ⟨#[112, 108, 97, 116, 102, 111, 114, 109]⟩ with
              | none =>
                rw [hf] at h1
                have HR2 := Lib.hid (show r = .ok (s, dg, q, (⟨#[]⟩ : ByteArray), (⟨#[]⟩ : ByteArray), (⟨#[]⟩ : ByteArray)) by rw [← HR.out]; unfold takeA; unfold nMedia; rw [HF1.out]; simp only []; rw [HD.out]; simp only []; rw [HZ.out]; simp only []; unfold platsA nPlat; rw [hf])
                obtain ⟨rfl, hb6⟩ := h1
                simp only [docBad]
                clear hf
                have HB6 := Lib.hid hb6
                have sz6 := hb6.size
                (try simp at sz6)
                have B6r := Lib.hid (show w6.heap[w.heap.size + 1]? = some (.cells #[.string ⟨#[]⟩, .string ⟨#[]⟩, .int .i64 0, .string ⟨#[]⟩, .string ⟨#[]⟩, .string ⟨#[]⟩] 67 (0, 0)) from (hb6.block (w.heap.size + 1) (by first | omega | (simp; done) | (simp; omega))).trans (by (repeat (first | rw [alloc_before (by first | omega | (simp; done) | (simp; omega))] | rw [Below.heap_setCell _ _ _ _ (by first | (simp only; omega) | (simp; omega))])); exact B5r.out))
                have B6q := Lib.hid (show w6.heap[w.heap.size + 1 + 1]? = some (.cells #[.int .i64 0, .string ⟨#[]⟩] 69 (0, 0)) from (hb6.block (w.heap.size + 1 + 1) (by first | omega | (simp; done) | (simp; omega))).trans (by (repeat (first | rw [alloc_before (by first | omega | (simp; done) | (simp; omega))] | rw [Below.heap_setCell _ _ _ _ (by first | (simp only; omega) | (simp; omega))])); exact B5q.out))
                have B6d := Lib.hid (show w6.heap[w.heap.size + 1 + 1 + 1]? = some (.cells #[.string s, .string dg, .int .i64 q, .string ⟨#[]⟩, .string ⟨#[]⟩, .string ⟨#[]⟩] 67 (0, 0)) from (hb6.block (w.heap.size + 1 + 1 + 1) (by first | omega | (simp; done) | (simp; omega))).trans (by (repeat (first | rw [alloc_before (by first | omega | (simp; done) | (simp; omega))] | rw [Below.heap_setCell _ _ _ _ (by first | (simp only; omega) | (simp; omega))])); refine (blk_set (cs := #[.string s, .string dg, .int .i64 0, .string ⟨#[]⟩, .string ⟨#[]⟩, .string ⟨#[]⟩]) ?_ _ _).trans rfl; (repeat (first | rw [alloc_before (by first | omega | (simp; done) | (simp; omega))] | rw [Below.heap_setCell _ _ _ _ (by first | (simp only; omega) | (simp; omega))])); exact B5d.out))
                have c6r := fun o => cell_of_row w6 (w.heap.size + 1) o _ 67 (0, 0) B6r.out
                have f6r : ∀ o, w6.frozen? ⟨w.heap.size + 1, o, none⟩ = false := fun o => by simp [World.frozen?, B6r.out]
                have l6r : w.heap.size + 1 < w6.heap.size := by first | omega | (simp; omega)
                have c6q := fun o => cell_of_row w6 (w.heap.size + 1 + 1) o _ 69 (0, 0) B6q.out
                have f6q : ∀ o, w6.frozen? ⟨w.heap.size + 1 + 1, o, none⟩ = false := fun o => by simp [World.frozen?, B6q.out]
                have l6q : w.heap.size + 1 + 1 < w6.heap.size := by first | omega | (simp; omega)
                have c6d := fun o => cell_of_row w6 (w.heap.size + 1 + 1 + 1) o _ 67 (0, 0) B6d.out
                have f6d : ∀ o, w6.frozen? ⟨w.heap.size + 1 + 1 + 1, o, none⟩ = false := fun o => by simp [World.frozen?, B6d.out]
                have l6d : w.heap.size + 1 + 1 + 1 < w6.heap.size := by first | omega | (simp; omega)
                clear hb6 c5x f5x c5r f5r c5q f5q c5d f5d c5t6 f5t6 c5t7 f5t7 c5t9 f5t9
                go_wp2
                refine bodyPost_ret (v := (.tuple #[.agg #[.string s, .string dg, .int .i64 q, .string ⟨#[]⟩, .string ⟨#[]⟩, .string ⟨#[]⟩], .agg #[.int .i64 0, .string ⟨#[]⟩]])) (by simp [results, Tryz.results25, go_sem, c6r, f6r, c6q, f6q, c6d, f6d, l6r, l6q, l6d]) rfl ?_
                refine ⟨by rw [HR2.out]; rfl, ?_⟩
                ((repeat (first | with_reducible refine Below.setCell ?_ (by first | omega | (simp; done) | (simp; omega)) _ | with_reducible refine Below.drew ?_ | with_reducible refine Below.alloc ?_ (by first | omega | (simp; done) | (simp; omega)) _)); refine Below.trans ?_ (HB6.out.mono (by first | omega | (simp; done) | (simp; omega))); (repeat (first | with_reducible refine Below.setCell ?_ (by first | omega | (simp; done) | (simp; omega)) _ | with_reducible refine Below.drew ?_ | with_reducible refine Below.alloc ?_ (by first | omega | (simp; done) | (simp; omega)) _)); refine Below.trans ?_ (HB5.out.mono (by first | omega | (simp; done) | (simp; omega))); (repeat (first | with_reducible refine Below.setCell ?_ (by first | omega | (simp; done) | (simp; omega)) _ | with_reducible refine Below.drew ?_ | with_reducible refine Below.alloc ?_ (by first | omega | (simp; done) | (simp; omega)) _)); refine Below.trans ?_ (HB4.out.mono (by first | omega | (simp; done) | (simp; omega))); (repeat (first | with_reducible refine Below.setCell ?_ (by first | omega | (simp; done) | (simp; omega)) _ | with_reducible refine Below.drew ?_ | with_reducible refine Below.alloc ?_ (by first | omega | (simp; done) | (simp; omega)) _)); refine Below.trans ?_ (HB3.out.mono (by first | omega | (simp; done) | (simp; omega))); (repeat (first | with_reducible refine Below.setCell ?_ (by first | omega | (simp; done) | (simp; omega)) _ | with_reducible refine Below.drew ?_ | with_reducible refine Below.alloc ?_ (by first | omega | (simp; done) | (simp; omega)) _)); refine Below.trans ?_ (HB2.out.mono (by first | omega | (simp; done) | (simp; omega))); (repeat (first | with_reducible refine Below.setCell ?_ (by first | omega | (simp; done) | (simp; omega)) _ | with_reducible refine Below.drew ?_ | with_reducible refine Below.alloc ?_ (by first | omega | (simp; done) | (simp; omega)) _)); refine Below.trans ?_ (HB1.out.mono (by first | omega | (simp; done) | (simp; omega))); (repeat (first | with_reducible refine Below.setCell ?_ (by first | omega | (simp; done) | (simp; omega)) _ | with_reducible refine Below.drew ?_ | with_reducible refine Below.alloc ?_ (by first | omega | (simp; done) | (simp; omega)) _)); exact Below.refl _ _)
              | some pl =>
                rw [hf] at h1
                have hpb : pl.bulk ≤ 4194304 := by have := V.get_bulk (V.maybe_get hf); omega
                have HF6 := Lib.hid hf
                obtain ⟨cs3, rfl, hrep3, hb6⟩ := h1
                have HPL := Lib.hid (fun W hW => plat_doc pl cs3 (fieldPlace p ⟨#[112, 108, 97, 116, 102, 111, 114, 109]⟩) W S hW hpb (by have := fieldPlace_size p ⟨#[112, 108, 97, 116, 102, 111, 114, 109]⟩; have h9 : (⟨#[112, 108, 97, 116, 102, 111, 114, 109]⟩ : ByteArray).size = 8 := (by decide); have := HP.out; omega))
                have HU := Lib.hid hrep3
                obtain ⟨A3, ca3, B3, cb3, rfl, -⟩ := hrep3.open
                simp only [docCells, List.cons_append, List.nil_append] at HPL ⊢
                clear hf hrep3
                have HB6 := Lib.hid hb6
                have sz6 := hb6.size
                (try simp at sz6)
                have B6x := Lib.hid (show w6.heap[w.heap.size]? = some (.cells #[.int .i64 v.kind, .bool v.tr, .string v.text, .slice A v.list.length ca, .slice B v.names.length cb, .string p, .int .i64 0, .string ⟨#[]⟩] 46 (0, 0)) from (hb6.block (w.heap.size) (by first | omega | (simp; done) | (simp; omega))).trans (by (repeat (first | rw [alloc_before (by first | omega | (simp; done) | (simp; omega))] | rw [Below.heap_setCell _ _ _ _ (by first | (simp only; omega) | (simp; omega))])); exact B5x.out))
                have B6r := Lib.hid (show w6.heap[w.heap.size + 1]? = some (.cells #[.string ⟨#[]⟩, .string ⟨#[]⟩, .int .i64 0, .string ⟨#[]⟩, .string ⟨#[]⟩, .string ⟨#[]⟩] 67 (0, 0)) from (hb6.block (w.heap.size + 1) (by first | omega | (simp; done) | (simp; omega))).trans (by (repeat (first | rw [alloc_before (by first | omega | (simp; done) | (simp; omega))] | rw [Below.heap_setCell _ _ _ _ (by first | (simp only; omega) | (simp; omega))])); exact B5r.out))
                have B6q := Lib.hid (show w6.heap[w.heap.size + 1 + 1]? = some (.cells #[.int .i64 0, .string ⟨#[]⟩] 69 (0, 0)) from (hb6.block (w.heap.size + 1 + 1) (by first | omega | (simp; done) | (simp; omega))).trans (by (repeat (first | rw [alloc_before (by first | omega | (simp; done) | (simp; omega))] | rw [Below.heap_setCell _ _ _ _ (by first | (simp only; omega) | (simp; omega))])); exact B5q.out))
                have B6d := Lib.hid (show w6.heap[w.heap.size + 1 + 1 + 1]? = some (.cells #[.string s, .string dg, .int .i64 q, .string ⟨#[]⟩, .string ⟨#[]⟩, .string ⟨#[]⟩] 67 (0, 0)) from (hb6.block (w.heap.size + 1 + 1 + 1) (by first | omega | (simp; done) | (simp; omega))).trans (by (repeat (first | rw [alloc_before (by first | omega | (simp; done) | (simp; omega))] | rw [Below.heap_setCell _ _ _ _ (by first | (simp only; omega) | (simp; omega))])); refine (blk_set (cs := #[.string s, .string dg, .int .i64 0, .string ⟨#[]⟩, .string ⟨#[]⟩, .string ⟨#[]⟩]) ?_ _ _).trans rfl; (repeat (first | rw [alloc_before (by first | omega | (simp; done) | (simp; omega))] | rw [Below.heap_setCell _ _ _ _ (by first | (simp only; omega) | (simp; omega))])); exact B5d.out))
                have B6t6 := Lib.hid (show w6.heap[w1.heap.size]? = some (.cells #[.int .i64 0, .string ⟨#[]⟩] 69 (0, 0)) from (hb6.block (w1.heap.size) (by first | omega | (simp; done) | (simp; omega))).trans (by (repeat (first | rw [alloc_before (by first | omega | (simp; done) | (simp; omega))] | rw [Below.heap_setCell _ _ _ _ (by first | (simp only; omega) | (simp; omega))])); exact B5t6.out))
                have B6t7 := Lib.hid (show w6.heap[w2.heap.size]? = some (.cells #[.int .i64 sz.kind, .bool sz.tr, .string sz.text, .slice A2 sz.list.length ca2, .slice B2 sz.names.length cb2, .string (fieldPlace p ⟨#[115, 105, 122, 101]⟩), .int .i64 0, .string ⟨#[]⟩] 46 (0, 0)) from (hb6.block (w2.heap.size) (by first | omega | (simp; done) | (simp; omega))).trans (by (repeat (first | rw [alloc_before (by first | omega | (simp; done) | (simp; omega))] | rw [Below.heap_setCell _ _ _ _ (by first | (simp only; omega) | (simp; omega))])); exact B5t7.out))
                have B6t9 := Lib.hid (show w6.heap[w3.heap.size]? = some (.cells #[.int .i64 0, .bool false, .string ⟨#[]⟩, .slice none 0 0, .slice none 0 0, .string ⟨#[]⟩, .int .i64 0, .string ⟨#[]⟩] 46 (0, 0)) from (hb6.block (w3.heap.size) (by first | omega | (simp; done) | (simp; omega))).trans (by (repeat (first | rw [alloc_before (by first | omega | (simp; done) | (simp; omega))] | rw [Below.heap_setCell _ _ _ _ (by first | (simp only; omega) | (simp; omega))])); refine (blk_set (cs := #[.int .i64 0, .bool false, .string ⟨#[]⟩, .slice none 0 0, .slice none 0 0, .string ⟨#[]⟩, .int .i64 0, .string ⟨#[]⟩]) ?_ _ _).trans rfl; (repeat (first | rw [alloc_before (by first | omega | (simp; done) | (simp; omega))] | rw [Below.heap_setCell _ _ _ _ (by first | (simp only; omega) | (simp; omega))])); refine (blk_set (cs := #[.int .i64 0, .bool false, .string ⟨#[]⟩, .slice none 0 0, .slice none 0 0, .string ⟨#[]⟩, .int .i64 0, .string ⟨#[]⟩]) ?_ _ _).trans rfl; (repeat (first | rw [alloc_before (by first | omega | (simp; done) | (simp; omega))] | rw [Below.heap_setCell _ _ _ _ (by first | (simp only; omega) | (simp; omega))])); refine (blk_set (cs := #[.int .i64 0, .bool false, .string ⟨#[]⟩, .slice none 0 0, .slice none 0 0, .string ⟨#[]⟩, .int .i64 0, .string ⟨#[]⟩]) ?_ _ _).trans rfl; (repeat (first | rw [alloc_before (by first | omega | (simp; done) | (simp; omega))] | rw [Below.heap_setCell _ _ _ _ (by first | (simp only; omega) | (simp; omega))])); refine (blk_set (cs := #[.int .i64 0, .bool false, .string ⟨#[]⟩, .slice none 0 0, .slice none 0 0, .string ⟨#[]⟩, .int .i64 0, .string ⟨#[]⟩]) ?_ _ _).trans rfl; (repeat (first | rw [alloc_before (by first | omega | (simp; done) | (simp; omega))] | rw [Below.heap_setCell _ _ _ _ (by first | (simp only; omega) | (simp; omega))])); refine (blk_set (cs := #[.int .i64 0, .bool false, .string ⟨#[]⟩, .slice none 0 0, .slice none 0 0, .string ⟨#[]⟩, .int .i64 0, .string ⟨#[]⟩]) ?_ _ _).trans rfl; (repeat (first | rw [alloc_before (by first | omega | (simp; done) | (simp; omega))] | rw [Below.heap_setCell _ _ _ _ (by first | (simp only; omega) | (simp; omega))])); refine (blk_set (cs := #[.int .i64 0, .bool false, .string ⟨#[]⟩, .slice none 0 0, .slice none 0 0, .string ⟨#[]⟩, .int .i64 0, .string ⟨#[]⟩]) ?_ _ _).trans rfl; (repeat (first | rw [alloc_before (by first | omega | (simp; done) | (simp; omega))] | rw [Below.heap_setCell _ _ _ _ (by first | (simp only; omega) | (simp; omega))])); refine (blk_set (cs := #[.int .i64 0, .bool false, .string ⟨#[]⟩, .slice none 0 0, .slice none 0 0, .string ⟨#[]⟩, .int .i64 0, .string ⟨#[]⟩]) ?_ _ _).trans rfl; (repeat (first | rw [alloc_before (by first | omega | (simp; done) | (simp; omega))] | rw [Below.heap_setCell _ _ _ _ (by first | (simp only; omega) | (simp; omega))])); refine (blk_set (cs := #[.int .i64 0, .bool false, .string ⟨#[]⟩, .slice none 0 0, .slice none 0 0, .string ⟨#[]⟩, .int .i64 0, .string ⟨#[]⟩]) ?_ _ _).trans rfl; (repeat (first | rw [alloc_before (by first | omega | (simp; done) | (simp; omega))] | rw [Below.heap_setCell _ _ _ _ (by first | (simp only; omega) | (simp; omega))])); exact B5t9.out))
                have c6x := fun o => cell_of_row w6 (w.heap.size) o _ 46 (0, 0) B6x.out
                have f6x : ∀ o, w6.frozen? ⟨w.heap.size, o, none⟩ = false := fun o => by simp [World.frozen?, B6x.out]
                have l6x : w.heap.size < w6.heap.size := by first | omega | (simp; omega)
                have c6r := fun o => cell_of_row w6 (w.heap.size + 1) o _ 67 (0, 0) B6r.out
                have f6r : ∀ o, w6.frozen? ⟨w.heap.size + 1, o, none⟩ = false := fun o => by simp [World.frozen?, B6r.out]
                have l6r : w.heap.size + 1 < w6.heap.size := by first | omega | (simp; omega)
                have c6q := fun o => cell_of_row w6 (w.heap.size + 1 + 1) o _ 69 (0, 0) B6q.out
                have f6q : ∀ o, w6.frozen? ⟨w.heap.size + 1 + 1, o, none⟩ = false := fun o => by simp [World.frozen?, B6q.out]
                have l6q : w.heap.size + 1 + 1 < w6.heap.size := by first | omega | (simp; omega)
                have c6d := fun o => cell_of_row w6 (w.heap.size + 1 + 1 + 1) o _ 67 (0, 0) B6d.out
                have f6d : ∀ o, w6.frozen? ⟨w.heap.size + 1 + 1 + 1, o, none⟩ = false := fun o => by simp [World.frozen?, B6d.out]
                have l6d : w.heap.size + 1 + 1 + 1 < w6.heap.size := by first | omega | (simp; omega)
                have c6t6 := fun o => cell_of_row w6 (w1.heap.size) o _ 69 (0, 0) B6t6.out
                have f6t6 : ∀ o, w6.frozen? ⟨w1.heap.size, o, none⟩ = false := fun o => by simp [World.frozen?, B6t6.out]
                have l6t6 : w1.heap.size < w6.heap.size := by first | omega | (simp; omega)
                have c6t7 := fun o => cell_of_row w6 (w2.heap.size) o _ 46 (0, 0) B6t7.out
                have f6t7 : ∀ o, w6.frozen? ⟨w2.heap.size, o, none⟩ = false := fun o => by simp [World.frozen?, B6t7.out]
                have l6t7 : w2.heap.size < w6.heap.size := by first | omega | (simp; omega)
                have c6t9 := fun o => cell_of_row w6 (w3.heap.size) o _ 46 (0, 0) B6t9.out
                have f6t9 : ∀ o, w6.frozen? ⟨w3.heap.size, o, none⟩ = false := fun o => by simp [World.frozen?, B6t9.out]
                have l6t9 : w3.heap.size < w6.heap.size := by first | omega | (simp; omega)
                clear hb6 c5x f5x c5r f5r c5q f5q c5d f5d c5t6 f5t6 c5t7 f5t7 c5t9 f5t9
                go_wp2_with fail
                refine (HPL.out _ (by exact HU.out.agree fun b hb hlt => ⟨Below.block (B := w6.heap.size) (by ((repeat (first | with_reducible refine Below.setCell ?_ (by first | omega | (simp; done) | (simp; omega)) _ | with_reducible refine Below.drew ?_ | with_reducible refine Below.alloc ?_ (by first | omega | (simp; done) | (simp; omega)) _)); exact Below.refl _ _)) b hlt, hb⟩)).mono ?_
                rintro e w7 h1
                cases hf : platA pl (fieldPlace p ⟨#[112, 108, 97, 116, 102, 111, 114, 109]⟩) with
                | error b =>
                  rw [hf] at h1
                  have hcode := platA_codes hf
                  obtain ⟨c, z⟩ := b
                  have HR2 := Lib.hid (show r = .error (c, z) by rw [← HR.out]; unfold takeA; unfold nMedia; rw [HF1.out]; simp only []; rw [HD.out]; simp only []; rw [HZ.out]; simp only []; unfold platsA nPlat; rw [HF6.out]; simp only []; rw [hf])
                  have h1' : e = .returned (.tuple #[.agg #[.string ⟨#[]⟩, .string ⟨#[]⟩, .string ⟨#[]⟩], .agg #[.int .i64 c, .string z]]) ∧ Below _ _ w7 := h1
                  obtain ⟨rfl, hb7⟩ := h1'
                  have hc0 : (c != 0) = true := by simpa using hcode
                  clear hf hcode h1
                  have HB7 := Lib.hid hb7
                  have sz7 := hb7.size
                  (try simp at sz7)
                  have B7r := Lib.hid (show w7.heap[w.heap.size + 1]? = some (.cells #[.string ⟨#[]⟩, .string ⟨#[]⟩, .int .i64 0, .string ⟨#[]⟩, .string ⟨#[]⟩, .string ⟨#[]⟩] 67 (0, 0)) from (hb7.block (w.heap.size + 1) (by first | omega | (simp; done) | (simp; omega))).trans (by (repeat (first | rw [alloc_before (by first | omega | (simp; done) | (simp; omega))] | rw [Below.heap_setCell _ _ _ _ (by first | (simp only; omega) | (simp; omega))])); exact B6r.out))
                  have B7q := Lib.hid (show w7.heap[w.heap.size + 1 + 1]? = some (.cells #[.int .i64 0, .string ⟨#[]⟩] 69 (0, 0)) from (hb7.block (w.heap.size + 1 + 1) (by first | omega | (simp; done) | (simp; omega))).trans (by (repeat (first | rw [alloc_before (by first | omega | (simp; done) | (simp; omega))] | rw [Below.heap_setCell _ _ _ _ (by first | (simp only; omega) | (simp; omega))])); exact B6q.out))
                  have B7d := Lib.hid (show w7.heap[w.heap.size + 1 + 1 + 1]? = some (.cells #[.string s, .string dg, .int .i64 q, .string ⟨#[]⟩, .string ⟨#[]⟩, .string ⟨#[]⟩] 67 (0, 0)) from (hb7.block (w.heap.size + 1 + 1 + 1) (by first | omega | (simp; done) | (simp; omega))).trans (by (repeat (first | rw [alloc_before (by first | omega | (simp; done) | (simp; omega))] | rw [Below.heap_setCell _ _ _ _ (by first | (simp only; omega) | (simp; omega))])); exact B6d.out))
                  have B7t6 := Lib.hid (show w7.heap[w1.heap.size]? = some (.cells #[.int .i64 0, .string ⟨#[]⟩] 69 (0, 0)) from (hb7.block (w1.heap.size) (by first | omega | (simp; done) | (simp; omega))).trans (by (repeat (first | rw [alloc_before (by first | omega | (simp; done) | (simp; omega))] | rw [Below.heap_setCell _ _ _ _ (by first | (simp only; omega) | (simp; omega))])); exact B6t6.out))
                  have c7r := fun o => cell_of_row w7 (w.heap.size + 1) o _ 67 (0, 0) B7r.out
                  have f7r : ∀ o, w7.frozen? ⟨w.heap.size + 1, o, none⟩ = false := fun o => by simp [World.frozen?, B7r.out]
                  have l7r : w.heap.size + 1 < w7.heap.size := by first | omega | (simp; omega)
                  have c7q := fun o => cell_of_row w7 (w.heap.size + 1 + 1) o _ 69 (0, 0) B7q.out
                  have f7q : ∀ o, w7.frozen? ⟨w.heap.size + 1 + 1, o, none⟩ = false := fun o => by simp [World.frozen?, B7q.out]
                  have l7q : w.heap.size + 1 + 1 < w7.heap.size := by first | omega | (simp; omega)
                  have c7d := fun o => cell_of_row w7 (w.heap.size + 1 + 1 + 1) o _ 67 (0, 0) B7d.out
                  have f7d : ∀ o, w7.frozen? ⟨w.heap.size + 1 + 1 + 1, o, none⟩ = false := fun o => by simp [World.frozen?, B7d.out]
                  have l7d : w.heap.size + 1 + 1 + 1 < w7.heap.size := by first | omega | (simp; omega)
                  have c7t6 := fun o => cell_of_row w7 (w1.heap.size) o _ 69 (0, 0) B7t6.out
                  have f7t6 : ∀ o, w7.frozen? ⟨w1.heap.size, o, none⟩ = false := fun o => by simp [World.frozen?, B7t6.out]
                  have l7t6 : w1.heap.size < w7.heap.size := by first | omega | (simp; omega)
                  clear hb7 c6x f6x c6r f6r c6q f6q c6d f6d c6t6 f6t6 c6t7 f6t7 c6t9 f6t9
                  go_wp2_with fail
                  go_region
                  all_goals
                    go_wp2
                    refine bodyPost_ret (v := (.tuple #[.agg #[.string ⟨#[]⟩, .string ⟨#[]⟩, .int .i64 0, .string ⟨#[]⟩, .string ⟨#[]⟩, .string ⟨#[]⟩], .agg #[.int .i64 c, .string z]])) (by simp [results, Tryz.results25, go_sem, c7r, f7r, c7q, f7q, c7d, f7d, c7t6, f7t6, l7r, l7q, l7d, l7t6]) rfl ?_
                    refine ⟨by rw [HR2.out]; rfl, ?_⟩
                    ((repeat (first | with_reducible refine Below.setCell ?_ (by first | omega | (simp; done) | (simp; omega)) _ | with_reducible refine Below.drew ?_ | with_reducible refine Below.alloc ?_ (by first | omega | (simp; done) | (simp; omega)) _)); refine Below.trans ?_ (HB7.out.mono (by first | omega | (simp; done) | (simp; omega))); (repeat (first | with_reducible refine Below.setCell ?_ (by first | omega | (simp; done) | (simp; omega)) _ | with_reducible refine Below.drew ?_ | with_reducible refine Below.alloc ?_ (by first | omega | (simp; done) | (simp; omega)) _)); refine Below.trans ?_ (HB6.out.mono (by first | omega | (simp; done) | (simp; omega))); (repeat (first | with_reducible refine Below.setCell ?_ (by first | omega | (simp; done) | (simp; omega)) _ | with_reducible refine Below.drew ?_ | with_reducible refine Below.alloc ?_ (by first | omega | (simp; done) | (simp; omega)) _)); refine Below.trans ?_ (HB5.out.mono (by first | omega | (simp; done) | (simp; omega))); (repeat (first | with_reducible refine Below.setCell ?_ (by first | omega | (simp; done) | (simp; omega)) _ | with_reducible refine Below.drew ?_ | with_reducible refine Below.alloc ?_ (by first | omega | (simp; done) | (simp; omega)) _)); refine Below.trans ?_ (HB4.out.mono (by first | omega | (simp; done) | (simp; omega))); (repeat (first | with_reducible refine Below.setCell ?_ (by first | omega | (simp; done) | (simp; omega)) _ | with_reducible refine Below.drew ?_ | with_reducible refine Below.alloc ?_ (by first | omega | (simp; done) | (simp; omega)) _)); refine Below.trans ?_ (HB3.out.mono (by first | omega | (simp; done) | (simp; omega))); (repeat (first | with_reducible refine Below.setCell ?_ (by first | omega | (simp; done) | (simp; omega)) _ | with_reducible refine Below.drew ?_ | with_reducible refine Below.alloc ?_ (by first | omega | (simp; done) | (simp; omega)) _)); refine Below.trans ?_ (HB2.out.mono (by first | omega | (simp; done) | (simp; omega))); (repeat (first | with_reducible refine Below.setCell ?_ (by first | omega | (simp; done) | (simp; omega)) _ | with_reducible refine Below.drew ?_ | with_reducible refine Below.alloc ?_ (by first | omega | (simp; done) | (simp; omega)) _)); refine Below.trans ?_ (HB1.out.mono (by first | omega | (simp; done) | (simp; omega))); (repeat (first | with_reducible refine Below.setCell ?_ (by first | omega | (simp; done) | (simp; omega)) _ | with_reducible refine Below.drew ?_ | with_reducible refine Below.alloc ?_ (by first | omega | (simp; done) | (simp; omega)) _)); exact Below.refl _ _)
                | ok pr =>
                  rw [hf] at h1
                  obtain ⟨pa, po, pv⟩ := pr
                  have HR2 := Lib.hid (show r = .ok (s, dg, q, pa, po, pv) by rw [← HR.out]; unfold takeA; unfold nMedia; rw [HF1.out]; simp only []; rw [HD.out]; simp only []; rw [HZ.out]; simp only []; unfold platsA nPlat; rw [HF6.out]; simp only []; rw [hf])
                  have h1' : e = .returned (.tuple #[.agg #[.string pa, .string po, .string pv], .agg #[.int .i64 0, .string ⟨#[]⟩]]) ∧ Below _ _ w7 := h1
                  obtain ⟨rfl, hb7⟩ := h1'
                  clear hf h1
                  have HB7 := Lib.hid hb7
                  have sz7 := hb7.size
                  (try simp at sz7)
                  have B7r := Lib.hid (show w7.heap[w.heap.size + 1]? = some (.cells #[.string ⟨#[]⟩, .string ⟨#[]⟩, .int .i64 0, .string ⟨#[]⟩, .string ⟨#[]⟩, .string ⟨#[]⟩] 67 (0, 0)) from (hb7.block (w.heap.size + 1) (by first | omega | (simp; done) | (simp; omega))).trans (by (repeat (first | rw [alloc_before (by first | omega | (simp; done) | (simp; omega))] | rw [Below.heap_setCell _ _ _ _ (by first | (simp only; omega) | (simp; omega))])); exact B6r.out))
                  have B7q := Lib.hid (show w7.heap[w.heap.size + 1 + 1]? = some (.cells #[.int .i64 0, .string ⟨#[]⟩] 69 (0, 0)) from (hb7.block (w.heap.size + 1 + 1) (by first | omega | (simp; done) | (simp; omega))).trans (by (repeat (first | rw [alloc_before (by first | omega | (simp; done) | (simp; omega))] | rw [Below.heap_setCell _ _ _ _ (by first | (simp only; omega) | (simp; omega))])); exact B6q.out))
                  have B7d := Lib.hid (show w7.heap[w.heap.size + 1 + 1 + 1]? = some (.cells #[.string s, .string dg, .int .i64 q, .string ⟨#[]⟩, .string ⟨#[]⟩, .string ⟨#[]⟩] 67 (0, 0)) from (hb7.block (w.heap.size + 1 + 1 + 1) (by first | omega | (simp; done) | (simp; omega))).trans (by (repeat (first | rw [alloc_before (by first | omega | (simp; done) | (simp; omega))] | rw [Below.heap_setCell _ _ _ _ (by first | (simp only; omega) | (simp; omega))])); exact B6d.out))
                  have B7t6 := Lib.hid (show w7.heap[w1.heap.size]? = some (.cells #[.int .i64 0, .string ⟨#[]⟩] 69 (0, 0)) from (hb7.block (w1.heap.size) (by first | omega | (simp; done) | (simp; omega))).trans (by (repeat (first | rw [alloc_before (by first | omega | (simp; done) | (simp; omega))] | rw [Below.heap_setCell _ _ _ _ (by first | (simp only; omega) | (simp; omega))])); exact B6t6.out))
                  have c7r := fun o => cell_of_row w7 (w.heap.size + 1) o _ 67 (0, 0) B7r.out
                  have f7r : ∀ o, w7.frozen? ⟨w.heap.size + 1, o, none⟩ = false := fun o => by simp [World.frozen?, B7r.out]
                  have l7r : w.heap.size + 1 < w7.heap.size := by first | omega | (simp; omega)
                  have c7q := fun o => cell_of_row w7 (w.heap.size + 1 + 1) o _ 69 (0, 0) B7q.out
                  have f7q : ∀ o, w7.frozen? ⟨w.heap.size + 1 + 1, o, none⟩ = false := fun o => by simp [World.frozen?, B7q.out]
                  have l7q : w.heap.size + 1 + 1 < w7.heap.size := by first | omega | (simp; omega)
                  have c7d := fun o => cell_of_row w7 (w.heap.size + 1 + 1 + 1) o _ 67 (0, 0) B7d.out
                  have f7d : ∀ o, w7.frozen? ⟨w.heap.size + 1 + 1 + 1, o, none⟩ = false := fun o => by simp [World.frozen?, B7d.out]
                  have l7d : w.heap.size + 1 + 1 + 1 < w7.heap.size := by first | omega | (simp; omega)
                  have c7t6 := fun o => cell_of_row w7 (w1.heap.size) o _ 69 (0, 0) B7t6.out
                  have f7t6 : ∀ o, w7.frozen? ⟨w1.heap.size, o, none⟩ = false := fun o => by simp [World.frozen?, B7t6.out]
                  have l7t6 : w1.heap.size < w7.heap.size := by first | omega | (simp; omega)
                  clear hb7 c6x f6x c6r f6r c6q f6q c6d f6d c6t6 f6t6 c6t7 f6t7 c6t9 f6t9
                  go_wp2
                  refine bodyPost_ret (v := (.tuple #[.agg #[.string s, .string dg, .int .i64 q, .string pa, .string po, .string pv], .agg #[.int .i64 0, .string ⟨#[]⟩]])) (by simp [results, Tryz.results25, go_sem, c7r, f7r, c7q, f7q, c7d, f7d, c7t6, f7t6, l7r, l7q, l7d, l7t6]) rfl ?_
                  refine ⟨by rw [HR2.out]; rfl, ?_⟩
                  ((repeat (first | with_reducible refine Below.setCell ?_ (by first | omega | (simp; done) | (simp; omega)) _ | with_reducible refine Below.drew ?_ | with_reducible refine Below.alloc ?_ (by first | omega | (simp; done) | (simp; omega)) _)); refine Below.trans ?_ (HB7.out.mono (by first | omega | (simp; done) | (simp; omega))); (repeat (first | with_reducible refine Below.setCell ?_ (by first | omega | (simp; done) | (simp; omega)) _ | with_reducible refine Below.drew ?_ | with_reducible refine Below.alloc ?_ (by first | omega | (simp; done) | (simp; omega)) _)); refine Below.trans ?_ (HB6.out.mono (by first | omega | (simp; done) | (simp; omega))); (repeat (first | with_reducible refine Below.setCell ?_ (by first | omega | (simp; done) | (simp; omega)) _ | with_reducible refine Below.drew ?_ | with_reducible refine Below.alloc ?_ (by first | omega | (simp; done) | (simp; omega)) _)); refine Below.trans ?_ (HB5.out.mono (by first | omega | (simp; done) | (simp; omega))); (repeat (first | with_reducible refine Below.setCell ?_ (by first | omega | (simp; done) | (simp; omega)) _ | with_reducible refine Below.drew ?_ | with_reducible refine Below.alloc ?_ (by first | omega | (simp; done) | (simp; omega)) _)); refine Below.trans ?_ (HB4.out.mono (by first | omega | (simp; done) | (simp; omega))); (repeat (first | with_reducible refine Below.setCell ?_ (by first | omega | (simp; done) | (simp; omega)) _ | with_reducible refine Below.drew ?_ | with_reducible refine Below.alloc ?_ (by first | omega | (simp; done) | (simp; omega)) _)); refine Below.trans ?_ (HB3.out.mono (by first | omega | (simp; done) | (simp; omega))); (repeat (first | with_reducible refine Below.setCell ?_ (by first | omega | (simp; done) | (simp; omega)) _ | with_reducible refine Below.drew ?_ | with_reducible refine Below.alloc ?_ (by first | omega | (simp; done) | (simp; omega)) _)); refine Below.trans ?_ (HB2.out.mono (by first | omega | (simp; done) | (simp; omega))); (repeat (first | with_reducible refine Below.setCell ?_ (by first | omega | (simp; done) | (simp; omega)) _ | with_reducible refine Below.drew ?_ | with_reducible refine Below.alloc ?_ (by first | omega | (simp; done) | (simp; omega)) _)); refine Below.trans ?_ (HB1.out.mono (by first | omega | (simp; done) | (simp; omega))); (repeat (first | with_reducible refine Below.setCell ?_ (by first | omega | (simp; done) | (simp; omega)) _ | with_reducible refine Below.drew ?_ | with_reducible refine Below.alloc ?_ (by first | omega | (simp; done) | (simp; omega)) _)); exact Below.refl _ _)

end Go.Proofs.YtoimjnmhinfbkaaGreatDoor
