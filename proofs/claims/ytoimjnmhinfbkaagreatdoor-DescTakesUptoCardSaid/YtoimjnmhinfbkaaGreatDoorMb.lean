import Derived.Test.YtoimjnmhinfbkaaGreatDoorMa
import Derived.Deep.RegionLaw
namespace Go.Proofs.YtoimjnmhinfbkaaGreatDoor
open Go.RowKit
set_option maxRecDepth 100000

/-- the document's look as a value. -/
def docCells (cs : List Value) (p : ByteArray) (bad : Int) (wh : ByteArray) : Value := .agg (cs ++ [Value.string p, .int .i64 bad, .string wh]).toArray

theorem field_doc_kind (k : Int) (t : Bool) (x : ByteArray) (A : Option Addr) (n ca : Nat) (B : Option Addr) (m cb : Nat) (p : ByteArray) (bad : Int) (wh name : ByteArray) (must : Bool) (w : World) (h : (k == 5) = false) :
    Calls Tryz.prog 62 #[.agg #[.int .i64 k, .bool t, .string x, .slice A n ca, .slice B m cb, .string p, .int .i64 bad, .string wh], .string name, .bool must] w
      fun e w' => e = .returned (.tuple #[docBad 11 p, .bool false]) ∧ Below w.heap.size w w' := by
  have h2 : (k != 5) = true := by simpa [bne] using h
  go_enter Tryz.func62, Tryz.ntmps62
  go_wp2_with (go_at_call 103; refine (wrong_doc _ _ _).mono ?_; rintro e w1 ⟨rfl, hb1⟩; obtain ⟨hc1, hf1⟩ := bcell hb1; have hz1 : w.heap.size + 1 < w1.heap.size := (by have := hb1.size; simp at this; omega))
  refine bodyPost_ret (v := .tuple #[docBad 11 p, .bool false]) (by simp [results, docBad, Tryz.results62, go_sem, hc1, hz1]) rfl ?_
  refine ⟨rfl, ?_⟩
  (repeat (first | with_reducible refine Below.setCell ?_ (by simp) _))
  exact (((Below.refl _ _).alloc (Nat.le_refl _) _).alloc (by simp) _).trans (hb1.mono (by simp; omega))

set_option maxHeartbeats 800000 in
/-- there is no such name, and there must be one. -/
theorem field_doc_none (t : Bool) (x : ByteArray) (A : Option Addr) (l : List V) (ca : Nat) (B : Option Addr) (ns : List ByteArray) (cb : Nat) (p : ByteArray) (bad : Int) (wh name : ByteArray) (w : World) (S : Nat → Prop)
    (hS : Strs w S B ns) (hn : ns.length ≤ 8388608) (hl : l.length ≤ 8388608) (hp : p.size ≤ 1073741824) (hnm : name.size ≤ 1073741824) (hg : (V.mk 5 t x l ns).place name < 0) :
    Calls Tryz.prog 62 #[.agg #[.int .i64 5, .bool t, .string x, .slice A l.length ca, .slice B ns.length cb, .string p, .int .i64 bad, .string wh], .string name, .bool true] w
      fun e w' => e = .returned (.tuple #[docBad 4 (fieldPlace p name), .bool false]) ∧ Below w.heap.size w w' := by
  have HS := Lib.hid hS
  clear hS
  generalize hq : (V.mk 5 t x l ns).place name = q at hg
  have HQ := Lib.hid hq
  clear hq
  go_enter Tryz.func62, Tryz.ntmps62
  go_wp2_with (first | (go_at_call 104; refine (place_doc 5 t x A l ca B ns cb name _ S (by exact HS.out.agree fun b hb hlt => ⟨below_agree (((Below.refl w.heap.size w).alloc (Nat.le_refl _) _).alloc (by simp) _) b hlt, hb⟩) hn hl).mono ?_; rintro e w1 ⟨rfl, hb1⟩; rw [HQ.out]; obtain ⟨hc1, hf1⟩ := bcell hb1; have hz1 : w.heap.size + 1 < w1.heap.size := (by have := hb1.size; simp at this; omega); have hz2 : w.heap.size < w1.heap.size := (by omega)) | (go_at_call 105; refine (field_doc _ _ _ _ _ _ _ _ _ _ _ _ _ _ hp hnm).mono ?_; rintro e w2 ⟨rfl, rfl⟩) | (go_at_call 103; refine (wrong_doc _ _ _).mono ?_; rintro e w3 ⟨rfl, hb3⟩; obtain ⟨hc3, hf3⟩ := bcell hb3; have hy1 : w.heap.size + 1 < w3.heap.size := (by have := hb3.size; simp at this; omega)))
  refine bodyPost_ret (v := .tuple #[docBad 4 (fieldPlace p name), .bool false]) (by simp [results, docBad, Tryz.results62, go_sem, hc3, hy1, hc1, hz1, hz2, Nat.lt_succ_of_lt hz1]) rfl ?_
  refine ⟨rfl, ?_⟩
  (repeat (first | with_reducible refine Below.setCell ?_ (by simp) _))
  exact ((((Below.refl _ _).alloc (Nat.le_refl _) _).alloc (by simp) _).trans (hb1.mono (by simp; omega))).trans (((Below.refl _ _).alloc (by omega) _).trans (hb3.mono (by simp; omega)))

/-- there is no such name, and there need not be one. -/
theorem field_doc_not (t : Bool) (x : ByteArray) (A : Option Addr) (l : List V) (ca : Nat) (B : Option Addr) (ns : List ByteArray) (cb : Nat) (p : ByteArray) (bad : Int) (wh name : ByteArray) (w : World) (S : Nat → Prop)
    (hS : Strs w S B ns) (hn : ns.length ≤ 8388608) (hl : l.length ≤ 8388608) (hg : (V.mk 5 t x l ns).place name < 0) :
    Calls Tryz.prog 62 #[.agg #[.int .i64 5, .bool t, .string x, .slice A l.length ca, .slice B ns.length cb, .string p, .int .i64 bad, .string wh], .string name, .bool false] w
      fun e w' => e = .returned (.tuple #[docBad 0 ⟨#[]⟩, .bool false]) ∧ Below w.heap.size w w' := by
  have HS := Lib.hid hS
  clear hS
  generalize hq : (V.mk 5 t x l ns).place name = q at hg
  have HQ := Lib.hid hq
  clear hq
  go_enter Tryz.func62, Tryz.ntmps62
  go_wp2_with (go_at_call 104; refine (place_doc 5 t x A l ca B ns cb name _ S (by exact HS.out.agree fun b hb hlt => ⟨below_agree (((Below.refl w.heap.size w).alloc (Nat.le_refl _) _).alloc (by simp) _) b hlt, hb⟩) hn hl).mono ?_; rintro e w1 ⟨rfl, hb1⟩; rw [HQ.out]; obtain ⟨hc1, hf1⟩ := bcell hb1; have hz1 : w.heap.size + 1 < w1.heap.size := (by have := hb1.size; simp at this; omega); have hz2 : w.heap.size < w1.heap.size := (by omega))
  refine bodyPost_ret (v := .tuple #[docBad 0 ⟨#[]⟩, .bool false]) (by simp [results, docBad, Tryz.results62, go_sem, hc1, hz1, hz2, Nat.lt_succ_of_lt hz1]) rfl ?_
  refine ⟨rfl, ?_⟩
  (repeat (first | with_reducible refine Below.setCell ?_ (by simp) _))
  exact (((Below.refl _ _).alloc (Nat.le_refl _) _).alloc (by simp) _).trans (hb1.mono (by simp; omega))

/-- the name's value is null, and there need not be one. -/
theorem field_doc_null (t : Bool) (x : ByteArray) (A : Option Addr) (l : List V) (ca : Nat) (B : Option Addr) (ns : List ByteArray) (cb : Nat) (p : ByteArray) (bad : Int) (wh name : ByteArray) (w : World) (S : Nat → Prop)
    (hS : Strs w S B ns) (hL : l = [] ∨ ∃ b o, A = some ⟨b, o, none⟩ ∧ S b ∧ V.Reps w S b o l) (hn : ns.length ≤ 8388608) (hl : l.length ≤ 8388608) (j : Nat) (hj : j < l.length) (hg : (V.mk 5 t x l ns).place name = j) (hk : ((l[j]).kind == 0) = true) :
    Calls Tryz.prog 62 #[.agg #[.int .i64 5, .bool t, .string x, .slice A l.length ca, .slice B ns.length cb, .string p, .int .i64 bad, .string wh], .string name, .bool false] w
      fun e w' => e = .returned (.tuple #[docBad 0 ⟨#[]⟩, .bool false]) ∧ Below w.heap.size w w' := by
  have HS := Lib.hid hS
  have HQ := Lib.hid hg
  obtain ⟨b, o, rfl, hSb, hr⟩ := hL.resolve_left (by rintro rfl; simp at hj)
  obtain ⟨cs, hr0, hv⟩ := hr.get j hj
  have hblt : b < w.heap.size := hr0.lt (by have := hv.len; rintro rfl; simp at this)
  obtain ⟨A1, ca1, B1, cb1, rfl, -⟩ := hv.open
  have HR := Lib.hid hr0
  have hj0 : (0 : Int) ≤ (j : Int) := Int.natCast_nonneg _
  have hj1 : (j : Int) < (l.length : Int) := by omega
  clear hS hg hr hr0 hv
  go_enter Tryz.func62, Tryz.ntmps62
  go_wp2_with fail
  refine (place_doc 5 t x _ l ca B ns cb name _ S (by exact HS.out.agree fun b hb hlt => ⟨below_agree (((Below.refl w.heap.size w).alloc (Nat.le_refl _) _).alloc (by simp) _) b hlt, hb⟩) hn hl).mono ?_
  rintro e w1 ⟨rfl, hb1⟩
  rw [HQ.out]
  obtain ⟨hc1, hf1⟩ := bcell hb1
  have hz1 : w.heap.size + 1 < w1.heap.size := by have := hb1.size; simp at this; omega
  have hz2 : w.heap.size < w1.heap.size := by omega
  have hr1 : Row w1 b (o + 5 * j) _ := HR.out.agree (below_agree ((((Below.refl w.heap.size w).alloc (Nat.le_refl _) _).alloc (by simp) _).trans (hb1.mono (by simp; omega))) b hblt)
  have e0 := hr1 0 (by simp)
  simp at e0
  rw [Nat.mul_comm] at e0
  clear hr1
  go_wp2
  refine bodyPost_ret (v := .tuple #[docBad 0 ⟨#[]⟩, .bool false]) (by simp [results, docBad, Tryz.results62, go_sem, hc1, hz1, hz2, Nat.lt_succ_of_lt hz1]) rfl ?_
  refine ⟨rfl, ?_⟩
  (repeat (first | with_reducible refine Below.setCell ?_ (by simp) _))
  exact (((Below.refl _ _).alloc (Nat.le_refl _) _).alloc (by simp) _).trans (hb1.mono (by simp; omega))

end Go.Proofs.YtoimjnmhinfbkaaGreatDoor

namespace Go.Proofs.YtoimjnmhinfbkaaGreatDoor
open Go.RowKit
set_option maxRecDepth 100000

theorem rep_and_below {v : V} {S : Nat → Prop} {cs : List Value} {w w' : World} (hv : v.Rep w S cs) (hb : Below w.heap.size w w') : v.Rep w' S cs ∧ Below w.heap.size w w' :=
  ⟨hv.agree fun b hs hlt => ⟨hb.block b hlt, hs⟩, hb⟩

set_option maxHeartbeats 1600000 in
/-- the name's value. -/
theorem field_doc_some (t : Bool) (x : ByteArray) (A : Option Addr) (l : List V) (ca : Nat) (B : Option Addr) (ns : List ByteArray) (cb : Nat) (p : ByteArray) (bad : Int) (wh name : ByteArray) (must : Bool) (w : World) (S : Nat → Prop)
    (hS : Strs w S B ns) (hL : l = [] ∨ ∃ b o, A = some ⟨b, o, none⟩ ∧ S b ∧ V.Reps w S b o l) (hn : ns.length ≤ 8388608) (hl : l.length ≤ 8388608) (hp : p.size ≤ 1073741824) (hnm : name.size ≤ 1073741824)
    (j : Nat) (hj : j < l.length) (hg : (V.mk 5 t x l ns).place name = j) (hk : must = true ∨ ((l[j]).kind == 0) = false) :
    Calls Tryz.prog 62 #[.agg #[.int .i64 5, .bool t, .string x, .slice A l.length ca, .slice B ns.length cb, .string p, .int .i64 bad, .string wh], .string name, .bool must] w
      fun e w' => ∃ cs', e = .returned (.tuple #[docCells cs' (fieldPlace p name) 0 ⟨#[]⟩, .bool true]) ∧ (l[j]).Rep w' S cs' ∧ Below w.heap.size w w' := by
  have HS := Lib.hid hS
  have HQ := Lib.hid hg
  obtain ⟨b, o, rfl, hSb, hr⟩ := hL.resolve_left (by rintro rfl; simp at hj)
  obtain ⟨cs, hr0, hv⟩ := hr.get j hj
  have hblt : b < w.heap.size := hr0.lt (by have := hv.len; rintro rfl; simp at this)
  have HV := Lib.hid hv
  obtain ⟨A1, ca1, B1, cb1, rfl, -⟩ := hv.open
  have HR := Lib.hid hr0
  have hj0 : (0 : Int) ≤ (j : Int) := Int.natCast_nonneg _
  have hj1 : (j : Int) < (l.length : Int) := by omega
  clear hS hg hr hr0 hv
  go_enter Tryz.func62, Tryz.ntmps62
  go_wp2_with fail
  refine (place_doc 5 t x _ l ca B ns cb name _ S (by exact HS.out.agree fun b hb hlt => ⟨below_agree (((Below.refl w.heap.size w).alloc (Nat.le_refl _) _).alloc (by simp) _) b hlt, hb⟩) hn hl).mono ?_
  rintro e w1 ⟨rfl, hb1⟩
  rw [HQ.out]
  obtain ⟨hc1, hf1⟩ := bcell hb1
  have hz1 : w.heap.size + 1 < w1.heap.size := by have := hb1.size; simp at this; omega
  have hz2 : w.heap.size < w1.heap.size := by omega
  have hB := (((Below.refl w.heap.size w).alloc (Nat.le_refl _) (.cells #[.int .i64 5, .bool t, .string x, .slice (some ⟨b, o, none⟩) l.length ca, .slice B ns.length cb, .string p, .int .i64 bad, .string wh] 46)).alloc (by simp) (.cells #[.int .i64 0, .bool false, .string ⟨#[]⟩, .slice none 0 0, .slice none 0 0, .string ⟨#[]⟩, .int .i64 0, .string ⟨#[]⟩] 46)).trans (hb1.mono (by simp; omega))
  have HB := Lib.hid hB
  clear hB
  have hr1 : Row w1 b (o + 5 * j) _ := HR.out.agree (HB.out.block b hblt)
  have e0 := hr1 0 (by simp)
  have e1 := hr1 1 (by simp)
  have e2 := hr1 2 (by simp)
  have e3 := hr1 3 (by simp)
  have e4 := hr1 4 (by simp)
  simp at e0 e1 e2 e3 e4
  rw [Nat.mul_comm] at e0 e1 e2 e3 e4
  clear hr1
  have hne1 : ¬ b = w.heap.size + 1 := by omega
  have hne2 : ¬ w.heap.size + 1 = b := by omega
  have k0 : w1.cell? ⟨w.heap.size, 0, none⟩ = some (.int .i64 5) := by rw [hc1 _ _ (by simp; omega)]; simp [go_sem]
  have k1 : w1.cell? ⟨w.heap.size, 1, none⟩ = some (.bool t) := by rw [hc1 _ _ (by simp; omega)]; simp [go_sem]
  have k2 : w1.cell? ⟨w.heap.size, 2, none⟩ = some (.string x) := by rw [hc1 _ _ (by simp; omega)]; simp [go_sem]
  have k3 : w1.cell? ⟨w.heap.size, 3, none⟩ = some (.slice (some ⟨b, o, none⟩) l.length ca) := by rw [hc1 _ _ (by simp; omega)]; simp [go_sem]
  have k4 : w1.cell? ⟨w.heap.size, 4, none⟩ = some (.slice B ns.length cb) := by rw [hc1 _ _ (by simp; omega)]; simp [go_sem]
  have k5 : w1.cell? ⟨w.heap.size, 5, none⟩ = some (.string p) := by rw [hc1 _ _ (by simp; omega)]; simp [go_sem]
  have k6 : w1.cell? ⟨w.heap.size, 6, none⟩ = some (.int .i64 bad) := by rw [hc1 _ _ (by simp; omega)]; simp [go_sem]
  have k7 : w1.cell? ⟨w.heap.size, 7, none⟩ = some (.string wh) := by rw [hc1 _ _ (by simp; omega)]; simp [go_sem]
  rcases hk with rfl | hk
  · go_wp2_with fail
    go_region_held3 (fun w' => w'.cell? ⟨w.heap.size, 0, none⟩ = some (.int .i64 5) ∧ w'.cell? ⟨w.heap.size, 1, none⟩ = some (.bool t) ∧ w'.cell? ⟨w.heap.size, 2, none⟩ = some (.string x) ∧ w'.cell? ⟨w.heap.size, 3, none⟩ = some (.slice (some ⟨b, o, none⟩) l.length ca) ∧ w'.cell? ⟨w.heap.size, 4, none⟩ = some (.slice B ns.length cb) ∧ w'.cell? ⟨w.heap.size, 5, none⟩ = some (.string p) ∧ w'.cell? ⟨w.heap.size, 6, none⟩ = some (.int .i64 bad) ∧ w'.cell? ⟨w.heap.size, 7, none⟩ = some (.string wh) ∧ w'.cell? ⟨b, o + j * 5, none⟩ = some (.int .i64 (l[j]).kind) ∧ w'.cell? ⟨b, o + j * 5 + 1, none⟩ = some (.bool (l[j]).tr) ∧ w'.cell? ⟨b, o + j * 5 + 2, none⟩ = some (.string (l[j]).text) ∧ w'.cell? ⟨b, o + j * 5 + 3, none⟩ = some (.slice A1 (l[j]).list.length ca1) ∧ w'.cell? ⟨b, o + j * 5 + 4, none⟩ = some (.slice B1 (l[j]).names.length cb1)) (first | go_keep | exact ⟨k0, k1, k2, k3, k4, k5, k6, k7, e0, e1, e2, e3, e4⟩) ((first | (go_at_call 105; refine (field_doc _ _ _ _ _ _ _ _ _ _ _ _ _ _ hp hnm).mono ?_; rintro e w2 ⟨rfl, rfl⟩)))
    go_wp2
    refine bodyPost_ret (v := .tuple #[docCells [.int .i64 (l[j]).kind, .bool (l[j]).tr, .string (l[j]).text, .slice A1 (l[j]).list.length ca1, .slice B1 (l[j]).names.length cb1] (fieldPlace p name) 0 ⟨#[]⟩, .bool true]) (by simp [results, docCells, Tryz.results62, go_sem, hc1, hz1, hz2, Nat.lt_succ_of_lt hz1]) rfl ?_
    refine ⟨[.int .i64 (l[j]).kind, .bool (l[j]).tr, .string (l[j]).text, .slice A1 (l[j]).list.length ca1, .slice B1 (l[j]).names.length cb1], rfl, rep_and_below HV.out ?_⟩
    (repeat (first | with_reducible refine Below.drew ?_ | with_reducible refine Below.alloc ?_ (by simp; omega) _ | with_reducible refine Below.setCell ?_ (by simp) _))
    exact HB.out
  · cases must
    all_goals
      go_wp2_with fail
      go_region_held3 (fun w' => w'.cell? ⟨w.heap.size, 0, none⟩ = some (.int .i64 5) ∧ w'.cell? ⟨w.heap.size, 1, none⟩ = some (.bool t) ∧ w'.cell? ⟨w.heap.size, 2, none⟩ = some (.string x) ∧ w'.cell? ⟨w.heap.size, 3, none⟩ = some (.slice (some ⟨b, o, none⟩) l.length ca) ∧ w'.cell? ⟨w.heap.size, 4, none⟩ = some (.slice B ns.length cb) ∧ w'.cell? ⟨w.heap.size, 5, none⟩ = some (.string p) ∧ w'.cell? ⟨w.heap.size, 6, none⟩ = some (.int .i64 bad) ∧ w'.cell? ⟨w.heap.size, 7, none⟩ = some (.string wh) ∧ w'.cell? ⟨b, o + j * 5, none⟩ = some (.int .i64 (l[j]).kind) ∧ w'.cell? ⟨b, o + j * 5 + 1, none⟩ = some (.bool (l[j]).tr) ∧ w'.cell? ⟨b, o + j * 5 + 2, none⟩ = some (.string (l[j]).text) ∧ w'.cell? ⟨b, o + j * 5 + 3, none⟩ = some (.slice A1 (l[j]).list.length ca1) ∧ w'.cell? ⟨b, o + j * 5 + 4, none⟩ = some (.slice B1 (l[j]).names.length cb1)) (first | go_keep | exact ⟨k0, k1, k2, k3, k4, k5, k6, k7, e0, e1, e2, e3, e4⟩) ((first | (go_at_call 105; refine (field_doc _ _ _ _ _ _ _ _ _ _ _ _ _ _ hp hnm).mono ?_; rintro e w2 ⟨rfl, rfl⟩)))
      go_wp2
      refine bodyPost_ret (v := .tuple #[docCells [.int .i64 (l[j]).kind, .bool (l[j]).tr, .string (l[j]).text, .slice A1 (l[j]).list.length ca1, .slice B1 (l[j]).names.length cb1] (fieldPlace p name) 0 ⟨#[]⟩, .bool true]) (by simp [results, docCells, Tryz.results62, go_sem, hc1, hz1, hz2, Nat.lt_succ_of_lt hz1]) rfl ?_
      refine ⟨[.int .i64 (l[j]).kind, .bool (l[j]).tr, .string (l[j]).text, .slice A1 (l[j]).list.length ca1, .slice B1 (l[j]).names.length cb1], rfl, rep_and_below HV.out ?_⟩
      (repeat (first | with_reducible refine Below.drew ?_ | with_reducible refine Below.alloc ?_ (by simp; omega) _ | with_reducible refine Below.setCell ?_ (by simp) _))
      exact HB.out

end Go.Proofs.YtoimjnmhinfbkaaGreatDoor

namespace Go.Proofs.YtoimjnmhinfbkaaGreatDoor
open Go.RowKit
set_option maxRecDepth 100000

theorem info43 : (Tryz.prog.info? 43).map (fun i => (i.zero, i.size, i.bytes)) = some (some (.agg #[.int .i64 0, .bool false, .string ⟨#[]⟩, .slice none 0 0, .slice none 0 0]), 5, 80) := by kernel_rfl

/-- the blocks of the document's values made so far. -/
def DocS (w : World) (S : Nat → Prop) (u : Value) (wr : World) : Nat → Prop := fun b => (S b ∧ b < w.heap.size) ∨ (w.heap.size + 3 ≤ b ∧ b < wr.heap.size ∧ some b ≠ u.ownBlock)

/-- what holds at the head of Document's loop. -/
def DocInv (w : World) (S : Nat → Prop) (l : List V) (v0 v1 v2 v4 : Value) (c : Array Value) (u : Value) (j : Nat) (xs : List Value) (wr : World) : Prop :=
  Below w.heap.size w wr ∧ w.heap.size + 2 < wr.heap.size ∧ wr.heap[w.heap.size + 2]? = some (.cells #[v0, v1, v2, u, v4] 43 (0, 0)) ∧ wr.heap[w.heap.size + 1]? = some (.cells c 43 (0, 0)) ∧
    wr.ownsRow (w.heap.size + 3) 43 5 u j xs ∧ ∀ i, i < j → ∀ hi : i < l.length, (l[i]).Rep wr (DocS w S u wr) ((xs.drop (5 * i)).take 5)

theorem doc_round {w : World} {S : Nat → Prop} {l : List V} {v0 v1 v2 v4 : Value} {c : Array Value} {u : Value} {j : Nat} {xs : List Value} {wr w3 w4 : World} {o o2 : Obj} {g cap : Nat} {cs : List Value}
    (hI : DocInv w S l v0 v1 v2 v4 c u j xs wr) (hlt : j < l.length) (hb : Below (wr.alloc o).drew.heap.size (wr.alloc o).drew w3)
    (hv : (l[j]).Rep w3 (fun b => (S b ∧ b < w.heap.size) ∨ (wr.heap.size + 1 ≤ b ∧ b < w3.heap.size)) cs) (hg : (w3.alloc o2).grownBy w4 u.ownBlock)
    (hown : w4.ownsRow (w.heap.size + 3) 43 5 (.slice (some ⟨g, 0, none⟩) (j + 1) cap) (j + 1) (xs ++ cs)) (hgg : u.ownBlock = some g ∨ g = w3.heap.size + 1) :
    DocInv w S l v0 v1 v2 v4 c (.slice (some ⟨g, 0, none⟩) (j + 1) cap) (j + 1) (xs ++ cs) (w4.setCell ⟨w.heap.size + 2, 3, none⟩ (.slice (some ⟨g, 0, none⟩) (j + 1) cap)) := by
  obtain ⟨i1, i2, i3, i4, i5, i6⟩ := hI
  have hlen := i5.1
  have hs := hb.size
  simp at hs
  have hs4 : w3.heap.size + 1 ≤ w4.heap.size := by have := hg.size; simp at this; exact this
  have hown' := World.ownsRow.lt i5
  have hgl := World.ownsRow.lt hown g rfl
  have b3 : Below w.heap.size w w3 := (((i1.alloc (by omega) o).drew).trans (hb.mono (by simp; omega)))
  -- a block that was there at the round's head, and is not the row's
  have key : ∀ b, b < wr.heap.size → b ≠ w.heap.size + 2 → some b ≠ u.ownBlock → (w4.setCell ⟨w.heap.size + 2, 3, none⟩ (.slice (some ⟨g, 0, none⟩) (j + 1) cap)).heap[b]? = wr.heap[b]? := fun b h1 h2 h3 => by
    rw [Below.heap_setCell _ _ _ b h2, hg.block b (by simp; omega) h3, Below.heap_alloc w3 o2 b (by omega)]
    exact (hb.block b (by simp; omega)).trans (Below.heap_alloc wr o b h1)
  have key3 : ∀ b, b < w3.heap.size → b ≠ w.heap.size + 2 → some b ≠ u.ownBlock → (w4.setCell ⟨w.heap.size + 2, 3, none⟩ (.slice (some ⟨g, 0, none⟩) (j + 1) cap)).heap[b]? = w3.heap[b]? := fun b h1 h2 h3 => by
    rw [Below.heap_setCell _ _ _ b h2, hg.block b (by simp; omega) h3, Below.heap_alloc w3 o2 b (by omega)]
  have hno : ∀ b, b < w.heap.size + 3 → some b ≠ u.ownBlock := fun b hb e => by have := (hown' b e.symm).1; omega
  have h43 : w4.heap[w.heap.size + 2]? = some (.cells #[v0, v1, v2, u, v4] 43 (0, 0)) := by
    rw [hg.block _ (by simp; omega) (hno _ (by omega)), Below.heap_alloc w3 o2 _ (by omega)]
    exact (hb.block _ (by simp; omega)).trans ((Below.heap_alloc wr o _ i2).trans i3)
  refine ⟨?_, by rw [setCell_size]; omega, ?_, ?_, ?_, ?_⟩
  · exact ((b3.alloc (by omega) o2).grown hg (by simp; omega) (fun k hk => by have := (hown' k hk).1; omega)).setCell (by simp only; omega) _
  · simpa using blk_set h43 3 (.slice (some ⟨g, 0, none⟩) (j + 1) cap)
  · rw [key _ (by omega) (by omega) (hno _ (by omega))]; exact i4
  · obtain ⟨ho1, ho2⟩ := hown
    refine ⟨ho1, ho2.imp id ?_⟩
    rintro ⟨g', cap', cur, e1, e2, e3, e4⟩
    refine ⟨g', cap', cur, e1, e2, ?_, e4⟩
    rw [Below.heap_setCell _ _ _ g' (by simp only; omega)]
    exact e3
  · intro i hi hil
    by_cases hij : i < j
    · have hx : ((xs ++ cs).drop (5 * i)).take 5 = (xs.drop (5 * i)).take 5 := by
        rw [List.drop_append_of_le_length (by omega), List.take_append_of_le_length (by rw [List.length_drop]; omega)]
      rw [hx]
      refine (i6 i hij hil).agree ?_
      rintro b (⟨h1, h2⟩ | ⟨h1, h2, h3⟩) hlt'
      · exact ⟨key b (by omega) (by omega) (hno b (by omega)), .inl ⟨h1, h2⟩⟩
      · refine ⟨key b h2 (by omega) h3, .inr ⟨h1, by rw [setCell_size]; omega, ?_⟩⟩
        rcases hgg with h | h
        · rw [h] at h3; exact h3
        · intro e; have : b = g := by simpa [Value.ownBlock] using e
          omega
    · obtain rfl : i = j := by omega
      have hx : ((xs ++ cs).drop (5 * i)).take 5 = cs := by
        rw [show 5 * i = xs.length by omega, List.drop_left, List.take_of_length_le (by have := hv.len; omega)]
      rw [hx]
      refine hv.agree ?_
      rintro b (⟨h1, h2⟩ | ⟨h1, h2⟩) hlt'
      · exact ⟨key3 b (by omega) (by omega) (hno b (by omega)), .inl ⟨h1, h2⟩⟩
      · refine ⟨key3 b h2 (by omega) (fun e => by have := (hown' b e.symm).2; omega), .inr ⟨by omega, by rw [setCell_size]; omega, ?_⟩⟩
        intro e
        have hbg : b = g := by simpa [Value.ownBlock] using e
        rcases hgg with h | h
        · have := (hown' g h).2; omega
        · omega

end Go.Proofs.YtoimjnmhinfbkaaGreatDoor
