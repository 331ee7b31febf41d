import Derived.Test.YtoimjnmhinfbkaaGreatDoorH
import Derived.Deep.AppendLies
namespace Go.Proofs.YtoimjnmhinfbkaaGreatDoor
open Go.RowKit
set_option maxRecDepth 100000

theorem of_any (v : V) (cs : List Value) (w : World) (S : Nat → Prop) (hv : v.Rep w S cs) (hb : v.bulk ≤ 4194304) :
    Calls Tryz.prog 12 #[.agg cs.toArray] w fun e w' => ∃ cs', e = .returned (.agg (cs' ++ [Value.string ⟨#[]⟩]).toArray) ∧
      v.Rep w' (fun b => w.heap.size ≤ b ∧ b < w'.heap.size) cs' ∧ Below w.heap.size w w' := by
  have hv2 := hv
  obtain ⟨A, ca, B, cb, rfl, -⟩ := hv.open
  have HV := Lib.hid hv2
  clear hv hv2
  go_enter Tryz.func12, Tryz.ntmps12
  go_wp2_with (go_at_call 50; refine (copy_any v [.int .i64 v.kind, .bool v.tr, .string v.text, .slice A v.list.length ca, .slice B v.names.length cb] _ S hb (by exact HV.out.agree fun b hb hlt => ⟨below_agree (((Below.refl w.heap.size w).alloc (Nat.le_refl _) _).alloc (by simp) _) b hlt, hb⟩)).mono ?_; rintro e w1 ⟨cs1, rfl, hrep1, hb1⟩; obtain ⟨A1, ca1, B1, cb1, rfl, -⟩ := hrep1.open; have HR1 := Lib.hid hrep1; clear hrep1; have hz1 : w.heap.size + 1 < w1.heap.size := (by have := hb1.size; simp at this; omega); have hz2 : w.heap.size < w1.heap.size := (by omega); obtain ⟨hc1, hf1⟩ := bcell hb1)
  refine bodyPost_ret (v := .agg #[.int .i64 v.kind, .bool v.tr, .string v.text, .slice A1 v.list.length ca1, .slice B1 v.names.length cb1, .string ⟨#[]⟩]) (by simp [results, Tryz.results12, go_sem, hc1, hz1, hz2]) rfl ?_
  refine ⟨[.int .i64 v.kind, .bool v.tr, .string v.text, .slice A1 v.list.length ca1, .slice B1 v.names.length cb1], rfl, ?_, ?_⟩
  · refine HR1.out.fresh (lo := w.heap.size) (g := w.heap.size + 1) ?_ (by simp; omega) (by simp)
    (repeat (first | with_reducible refine Also.drew ?_ | with_reducible refine Also.alloc ?_ _ | with_reducible refine Also.setCell ?_ (by simp) _))
    exact Also.refl _ _
  · (repeat (first | with_reducible refine Below.setCell ?_ (by simp) _))
    exact (((Below.refl _ _).alloc (Nat.le_refl _) _).alloc (by simp) _).trans (hb1.mono (by simp; omega))

theorem below_grow (w : World) (os : Array Obj) : Below w.heap.size w (Go.Sort.grow w os) :=
  ⟨rfl, rfl, rfl, by simp [Go.Sort.grow], fun k hk => by simp [Go.Sort.grow, Array.getElem?_append_left hk]⟩

theorem itoa_any (n : Int) (w : World) (hg : Glob w) (h1 : -9223372036854775808 ≤ n) (h2 : n ≤ 9223372036854775807) : Calls Tryz.prog 76 #[.int .i64 n] w fun e w' =>
    e = .returned (.string ⟨(Lib.itoa n).toArray⟩) ∧ Below w.heap.size w w' :=
  (Tryz.strconv_Itoa n h1 h2 w hg.2.2.1).mono fun e w' ⟨h3, k, os, h4⟩ => ⟨h3, by
    subst h4
    have := below_grow (w.drewN k) os
    exact ⟨this.os, this.tape, this.output, this.size, this.block⟩⟩

theorem info32 : (Tryz.prog.info? 32).map (fun i => (i.zero, i.size, i.bytes)) = some (some (.agg #[.int .i64 0, .bool false, .string ⟨#[]⟩, .slice none 0 0, .slice none 0 0, .string ⟨#[]⟩]), 6, 96) := by kernel_rfl

/-- the place of an item. -/
def itemPlace (p : ByteArray) (i : Nat) : ByteArray := p ++ ⟨#[91]⟩ ++ ⟨(Lib.itoa i).toArray⟩ ++ ⟨#[93]⟩

def itemCells (css : List Value) (p : ByteArray) : Nat → List Value
  | 0 => []
  | j + 1 => itemCells css p j ++ ((css.drop (5 * j)).take 5 ++ [.string (itemPlace p j)])

/-- what holds at the head of Items' loop. -/
def ItemsInv (w : World) (css : List Value) (p : ByteArray) (c : Array Value) (v : Value) (j : Nat) (wr : World) : Prop :=
  Below w.heap.size w wr ∧ wr.heap[w.heap.size]? = some (.cells c 32 (0, 0)) ∧ w.heap.size < wr.heap.size ∧ wr.ownsRow (w.heap.size + 1) 32 6 v j (itemCells css p j)

theorem items_kind (k : Int) (t : Bool) (x : ByteArray) (A : Option Addr) (n ca : Nat) (B : Option Addr) (m cb : Nat) (p : ByteArray) (most : Int) (w : World) (h : (k == 4) = false) :
    Calls Tryz.prog 48 #[.agg #[.int .i64 k, .bool t, .string x, .slice A n ca, .slice B m cb, .string p], .int .i64 most] w (Threw w 11 p) := by
  go_enter Tryz.func48, Tryz.ntmps48
  go_wp2_with (go_at_call 51; refine (kind_no _ _ _ _ _ _ _ _ _ _ _ _ h).mono ?_; rintro e w' ⟨g, rfl, h⟩)
  exact ⟨rfl, Threw.of ⟨g, rfl, h⟩ ((Below.refl _ _).alloc (Nat.le_refl _) _)⟩

theorem items_many (t : Bool) (x : ByteArray) (A : Option Addr) (n ca : Nat) (B : Option Addr) (m cb : Nat) (p : ByteArray) (most : Int) (w : World) (h : most < n) :
    Calls Tryz.prog 48 #[.agg #[.int .i64 4, .bool t, .string x, .slice A n ca, .slice B m cb, .string p], .int .i64 most] w (Threw w 14 p) := by
  have hd : decide ((n : Int) ≤ most) = false := by simpa using h
  go_enter Tryz.func48, Tryz.ntmps48
  go_wp2_with (first | (go_at_call 51; refine (kind_yes _ _ _ _ _ _ _ _ _ _ _ _ (by rfl)).mono ?_; rintro e w1 ⟨rfl, hb1⟩; obtain ⟨hc1, hf1⟩ := bcell hb1) | (go_at_call 54; refine (lmust_no _ _ _ _ _ _ _ _ _ _ _ _).mono ?_; rintro e w' ⟨g, rfl, h⟩))
  exact ⟨rfl, Threw.of ⟨g, rfl, h⟩ (((Below.refl _ _).alloc (Nat.le_refl _) _).trans (hb1.mono (by simp)))⟩

theorem decDigits_length : ∀ (k u : Nat), u < 10 ^ (k + 1) → (Lib.decDigits u).length ≤ k + 1 := by
  intro k
  induction k with
  | zero => intro u hu; rw [Lib.decDigits, dif_pos (by simpa using hu)]; simp
  | succ k ih =>
    intro u hu
    rw [Lib.decDigits]
    split
    · simp
    · have := ih (u / 10) (by rw [Nat.pow_succ] at hu; omega)
      simp only [List.length_append, List.length_cons, List.length_nil]; omega

theorem itoa_length (j : Nat) (h : j ≤ 1000000) : (Lib.itoa (j : Int)).length ≤ 20 := by
  unfold Lib.itoa
  rw [if_neg (by omega), Int.toNat_natCast]
  have := decDigits_length 19 j (by omega)
  omega

theorem own_below {w w1 : World} {base : Nat} {e : TypeId} {size n : Nat} {v : Value} {xs : List Value} (h : w.ownsRow base e size v n xs) (hb : Below w.heap.size w w1) : w1.ownsRow base e size v n xs :=
  h.kept (row := none) ⟨hb.os, hb.tape, hb.output, hb.size, fun k hk _ => hb.block k hk⟩ (by cases v.ownBlock <;> simp)

theorem vals_flat {w : World} {S : Nat → Prop} {A : Option Addr} {l : List V} (h : l = [] ∨ ∃ b o, A = some ⟨b, o, none⟩ ∧ S b ∧ V.Reps w S b o l) :
    ∃ css : List Value, css.length = l.length * 5 ∧ (∀ i, ∀ hi : i < l.length, (l[i]).Rep w S ((css.drop (5 * i)).take 5)) ∧
      ∀ i, i < l.length → ∃ b o, A = some ⟨b, o, none⟩ ∧ b < w.heap.size ∧ Row w b (o + i * 5) ((css.drop (5 * i)).take 5) := by
  rcases h with rfl | ⟨b, o, rfl, hS, hr⟩
  · exact ⟨[], rfl, fun i hi => by simp at hi, fun i hi => by simp at hi⟩
  · obtain ⟨css, h1, h2, h3, h4⟩ := hr.flat
    refine ⟨css, h1, h4, fun i hi => ?_⟩
    have hp := row_part h2 (5 * i) 5
    rw [Nat.mul_comm] at hp
    refine ⟨b, o, rfl, ?_, by rw [Nat.mul_comm] at hp; rw [Nat.mul_comm i 5]; exact hp⟩
    refine hp.lt ?_
    intro h0
    have := (h4 i hi).len
    rw [Nat.mul_comm, h0] at this
    cases this

theorem itemCells_length (css : List Value) (p : ByteArray) (n : Nat) (h : css.length = n * 5) : ∀ j, j ≤ n → (itemCells css p j).length = j * 6 := by
  intro j
  induction j with
  | zero => intro _; rfl
  | succ j ih =>
    intro hj
    have := ih (by omega)
    simp only [itemCells, List.length_append, this, List.length_take, List.length_drop, List.length_cons, List.length_nil]
    omega

theorem itemCells_at (css : List Value) (p : ByteArray) (n : Nat) (h : css.length = n * 5) : ∀ j, j ≤ n → ∀ i, i < j → ((itemCells css p j).drop (6 * i)).take 6 = (css.drop (5 * i)).take 5 ++ [.string (itemPlace p i)] := by
  intro j
  induction j with
  | zero => intro _ i hi; omega
  | succ j ih =>
    intro hj i hi
    have hl := itemCells_length css p n h j (by omega)
    simp only [itemCells]
    by_cases he : i = j
    · subst he
      rw [show 6 * i = (itemCells css p i).length from by omega, List.drop_left, List.take_of_length_le]
      simp; omega
    · rw [List.drop_append_of_le_length (by omega), List.take_append_of_le_length (by rw [List.length_drop]; omega)]
      exact ih (by omega) i (by omega)

theorem keep_cell {wr w3 : World} {o : Obj} (hb : Below (wr.alloc o).drew.heap.size (wr.alloc o).drew w3) {a : Addr} {v : Value} (h : wr.cell? a = some v) : w3.cell? a = some v := by
  have h2 : (wr.alloc o).drew.cell? a = some v := by
    rw [← h]
    exact World.cell?_of_block (w := wr) (Below.heap_alloc wr o _ (World.block_lt_of_cell? wr a h))
  exact (hb.cell (World.block_lt_of_cell? _ a h2)).trans h2

theorem keep_new {wr w3 : World} {cs : Array Value} {t : TypeId} (hb : Below (wr.alloc (.cells cs t)).drew.heap.size (wr.alloc (.cells cs t)).drew w3) {i : Nat} {v : Value} (h : cs[i]? = some v) : w3.cell? ⟨wr.heap.size, i, none⟩ = some v := by
  have h2 : (wr.alloc (.cells cs t)).drew.cell? ⟨wr.heap.size, i, none⟩ = some v := by
    rw [← h]
    exact cell_of_row (wr.alloc (.cells cs t)) wr.heap.size i cs t (0, 0) (heap_alloc_new wr _)
  exact (hb.cell (World.block_lt_of_cell? _ _ h2)).trans h2

theorem grow_keep {w3 w4 : World} {o : Obj} {row : Option Nat} (hg : (w3.alloc o).grownBy w4 row) {a : Addr} {v : Value} (h : w3.cell? a = some v) (hne : some a.block ≠ row) : w4.cell? a = some v :=
  hg.cell (by rw [← h]; exact World.cell?_of_block (w := w3) (Below.heap_alloc w3 o _ (World.block_lt_of_cell? w3 a h))) hne

theorem items_round {w : World} {css : List Value} {p : ByteArray} {c : Array Value} {v v' : Value} {j : Nat} {wr w3 w4 : World} {o o2 : Obj} {cs : List Value}
    (hI : ItemsInv w css p c v j wr) (hcs : (css.drop (5 * j)).take 5 = cs) (hb : Below (wr.alloc o).drew.heap.size (wr.alloc o).drew w3) (hg : (w3.alloc o2).grownBy w4 v.ownBlock)
    (hown : w4.ownsRow (w.heap.size + 1) 32 6 v' (j + 1) (itemCells css p j ++ (cs ++ [.string (itemPlace p j)]))) : ItemsInv w css p c v' (j + 1) w4 := by
  obtain ⟨i1, i2, i3, i4⟩ := hI
  have hs := hb.size
  simp at hs
  have b3 : Below w.heap.size w w3 := (((i1.alloc (by omega) o).drew).trans (hb.mono (by simp; omega)))
  have h3 : w3.heap[w.heap.size]? = some (.cells c 32 (0, 0)) := (hb.block _ (by simp; omega)).trans ((Below.heap_alloc wr o _ i3).trans i2)
  have hlt := World.ownsRow.lt i4
  refine ⟨(b3.alloc (by omega) o2).grown hg (by simp; omega) (fun k hk => by have := (hlt k hk).1; omega), ?_, by have := hg.size; simp at this; omega, ?_⟩
  · rw [hg.block _ (by simp; omega) (fun e => by have := (hlt _ e.symm).1; omega), Below.heap_alloc w3 o2 _ (by omega)]
    exact h3
  · rw [show itemCells css p (j + 1) = itemCells css p j ++ ((css.drop (5 * j)).take 5 ++ [.string (itemPlace p j)]) from rfl, hcs]
    exact hown

set_option maxHeartbeats 1600000 in
theorem items_any (t : Bool) (x : ByteArray) (A : Option Addr) (l : List V) (ca : Nat) (B : Option Addr) (m cb : Nat) (p : ByteArray) (most : Int) (w : World) (S : Nat → Prop) (hg : Glob w)
    (hl : l = [] ∨ ∃ b o, A = some ⟨b, o, none⟩ ∧ S b ∧ V.Reps w S b o l) (hn : l.length ≤ 1000000) (hp : p.size ≤ 1073741824) (h : (l.length : Int) ≤ most) :
    Calls Tryz.prog 48 #[.agg #[.int .i64 4, .bool t, .string x, .slice A l.length ca, .slice B m cb, .string p], .int .i64 most] w fun e w' =>
      ∃ A' c', e = .returned (.slice A' l.length c') ∧ Below w.heap.size w w' ∧ l.length ≤ c' ∧
        (l = [] ∨ ∃ g, A' = some ⟨g, 0, none⟩ ∧ w.heap.size ≤ g ∧ g < w'.heap.size ∧ ∀ i, ∀ hi : i < l.length, ∃ cs, Row w' g (6 * i) (cs ++ [.string (itemPlace p i)]) ∧ (l[i]).Rep w S cs) := by
  have hd : decide ((l.length : Int) ≤ most) = true := by simpa using h
  have HG := Lib.hid hg
  have HL := Lib.hid hl
  clear hg hl
  go_enter Tryz.func48, Tryz.ntmps48
  go_wp2_with (first | (go_at_call 51; refine (kind_yes _ _ _ _ _ _ _ _ _ _ _ _ (by rfl)).mono ?_; rintro e w1 ⟨rfl, hb1⟩; obtain ⟨hc1, hf1⟩ := bcell hb1; have hz1 : w.heap.size < w1.heap.size := (by have := hb1.size; simp at this; omega)) | (go_at_call 54; refine (lmust_yes _ _ _ _ _ _ _ _ _ _ _ _).mono ?_; rintro e w2 ⟨rfl, hb2⟩; obtain ⟨hc2, hf2⟩ := bcell hb2))
  obtain ⟨css, hcl, hcr, hrow⟩ := vals_flat HL.out
  obtain ⟨i0, hi0, hz0, hzz1, hzz2⟩ := info_parts info32
  have b1 : Below w.heap.size w w1 := ((Below.refl _ _).alloc (Nat.le_refl _) _).trans (hb1.mono (by simp))
  have b2 : Below w.heap.size w w2 := b1.trans (hb2.mono b1.size)
  have hinv : ItemsInv w css p #[.int .i64 4, .bool t, .string x, .slice A l.length ca, .slice B m cb, .string p] (.slice none 0 0) 0 w2 := by
    refine ⟨b2, ?_, by have := hb2.size; omega, World.ownsRow_nil _ _ _ _⟩
    rw [hb2.block _ (by omega), hb1.block _ (by simp)]
    exact heap_alloc_new w _
  have HI := Lib.hid hinv
  have HCR := Lib.hid hcr
  have HROW := Lib.hid hrow
  clear hinv hcr hrow hc1 hf1 hc2 hf2 hb1 hb2 b1 b2 hz1 HL
  go_loopw [5, 22] (fun v i wr => ∃ j : Nat, j ≤ l.length ∧ i = .int .i64 j ∧ ItemsInv w css p #[.int .i64 4, .bool t, .string x, .slice A l.length ca, .slice B m cb, .string p] v j wr) (fun _ i _ => l.length - (intOf i).toNat)
  case atStart => exact ⟨0, Nat.zero_le _, rfl, HI.out⟩
  case round =>
    obtain ⟨j, hj, rfl, hI⟩ := hrel
    have HINV := Lib.hid hI
    obtain ⟨i1, i2, i3, i4⟩ := hI
    clear HI
    have HB := Lib.hid i1
    have H2 := Lib.hid i2
    have hpl := cell_of_row wr w.heap.size 5 _ 32 (0, 0) i2
    simp at hpl
    have hown := Lib.hid i4
    clear i1 i2 i4
    by_cases hlt : j < l.length
    · obtain ⟨b, o, rfl, hbl, hr⟩ := HROW.out j hlt
      obtain ⟨A3, ca3, B3, cb3, hcs, -⟩ := (HCR.out j hlt).open
      have hr2 := hr.agree (HB.out.block b hbl)
      rw [hcs] at hr2
      have e0 := hr2 0 (by simp)
      have e1 := hr2 1 (by simp)
      have e2 := hr2 2 (by simp)
      have e3 := hr2 3 (by simp)
      have e4 := hr2 4 (by simp)
      simp at e0 e1 e2 e3 e4
      have hj0 : (0 : Int) ≤ (j : Int) := Int.natCast_nonneg _
      have hj1 : (j : Int) < (l.length : Int) := by omega
      have hil := itoa_length j (by omega)
      have HCS := Lib.hid hcs
      clear hr hr2 hcs
      have hgw := HG.out.below HB.out
      have HGW := Lib.hid hgw
      clear hgw
      have hob : (∀ q, wr.heap.size ≤ q → some q ≠ u5.ownBlock) ∧ some w.heap.size ≠ u5.ownBlock := ⟨fun q hq e => by have := (hown.out.lt q e.symm).2; omega, fun e => by have := (hown.out.lt _ e.symm).1; omega⟩
      have HOB := Lib.hid hob
      clear hob
      go_wp2_with fail
      have q1 : ¬ 9223372036854775807 < p.size + 1 := by omega
      have q2 : ¬ 9223372036854775807 < p.size + 1 + (Lib.itoa (j : Int)).length := by omega
      have q3 : ¬ 9223372036854775807 < p.size + 1 + (Lib.itoa (j : Int)).length + 1 := by omega
      go_region_held3 (fun w' => w'.cell? ⟨wr.heap.size, 0, none⟩ = some (.int .i64 (l[j]).kind) ∧ w'.cell? ⟨wr.heap.size, 1, none⟩ = some (.bool (l[j]).tr) ∧ w'.cell? ⟨wr.heap.size, 2, none⟩ = some (.string (l[j]).text) ∧
          w'.cell? ⟨wr.heap.size, 3, none⟩ = some (.slice A3 (l[j]).list.length ca3) ∧ w'.cell? ⟨wr.heap.size, 4, none⟩ = some (.slice B3 (l[j]).names.length cb3) ∧ w'.cell? ⟨w.heap.size, 5, none⟩ = some (.string p))
        (first | go_keep | exact ⟨k0, k1, k2, k3, k4, k5⟩ | exact ⟨grow_keep hgrow4 k0 (HOB.out.1 _ (Nat.le_refl _)), grow_keep hgrow4 k1 (HOB.out.1 _ (Nat.le_refl _)), grow_keep hgrow4 k2 (HOB.out.1 _ (Nat.le_refl _)), grow_keep hgrow4 k3 (HOB.out.1 _ (Nat.le_refl _)), grow_keep hgrow4 k4 (HOB.out.1 _ (Nat.le_refl _)), grow_keep hgrow4 k5 HOB.out.2⟩)
        ((first | (go_at_call 76; refine (itoa_any (j : Int) _ (by exact HGW.out.keep fun _ h _ => Below.heap_alloc wr _ _ h) (by omega) (by omega)).mono ?_; rintro e w3 ⟨rfl, hb3⟩; have k5 := keep_cell hb3 hpl; have k0 := keep_new hb3 (i := 0) rfl; have k1 := keep_new hb3 (i := 1) rfl; have k2 := keep_new hb3 (i := 2) rfl; have k3 := keep_new hb3 (i := 3) rfl; have k4 := keep_new hb3 (i := 4) rfl; obtain ⟨hc3, hf3⟩ := bcell hb3) | (refine step_append_lies _ (by rfl) _ _ _ (by rfl) (w.heap.size + 1) 32 i0 _ 6 96 Tryz.underlying102 hi0 hz0 hzz1 hzz2 rfl (by omega) u5 j (itemCells css p j) (by rfl) ((own_below ((hown.out.alloc _)) (Below.mono ⟨hb3.os, hb3.tape, hb3.output, hb3.size, hb3.block⟩ (Nat.le_refl _))).alloc _) ⟨w3.heap.size, 0, none⟩ 1 1 [.int .i64 (l[j]).kind, .bool (l[j]).tr, .string (l[j]).text, .slice A3 (l[j]).list.length ca3, .slice B3 (l[j]).names.length cb3, .string (itemPlace p j)] (by rfl) (by rfl) (World.news_of_block (cs := #[.int .i64 (l[j]).kind, .bool (l[j]).tr, .string (l[j]).text, .slice A3 (l[j]).list.length ca3, .slice B3 (l[j]).names.length cb3, .string (itemPlace p j)]) (t := 32) (fr := (0, 0)) (heap_alloc_new w3 _)) (by simp [Value.oneCell']) (by omega) (by unfold maxLen; omega) (by omega) (by have := hb3.size; simp at this ⊢; omega) (w3.heap.size + 1) (by simp) ?_; intro gg cap w4 hown4 hgrow4 hat4 hlt4)))
      have HN := Lib.hid (items_round HINV.out HCS.out hb3 hgrow4 hown4)
      clear hown4 hgrow4 hat4 hlt4 hc3 hf3 hb3 k0 k1 k2 k3 k4 k5 hown HB H2 HINV q1 q2 q3
      go_wp2
      go_roundw
      case rel => exact ⟨j + 1, hlt, by go_num, HN.out⟩
      case measure => simp [intOf]; omega
    · have hj2 : j = l.length := by omega
      have HJ := Lib.hid hj2
      clear hj2
      obtain ⟨A', c', rfl, hcc, hlen, hrr⟩ := own_row hown.out
      have HRR := Lib.hid hrr
      clear hrr hlen
      go_wp2
      go_ret
      obtain rfl := HJ.out
      refine ⟨A', c', rfl, HB.out, hcc, ?_⟩
      rcases HRR.out with ⟨_, h0⟩ | ⟨g, rfl, hg1, hg2, hg3, _⟩
      · exact .inl (List.eq_nil_of_length_eq_zero h0)
      · refine .inr ⟨g, rfl, by omega, hg2, fun i hi => ⟨_, ?_, HCR.out i hi⟩⟩
        have := row_part hg3 (6 * i) 6
        rw [itemCells_at css p l.length hcl l.length (Nat.le_refl _) i hi, Nat.zero_add] at this
        exact this

end Go.Proofs.YtoimjnmhinfbkaaGreatDoor
