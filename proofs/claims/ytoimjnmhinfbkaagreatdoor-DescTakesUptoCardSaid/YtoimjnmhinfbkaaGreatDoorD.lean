import Derived.Test.YtoimjnmhinfbkaaGreatDoorC
import Derived.Deep.RegionHeld3
import Derived.Deep.LoopGhost
namespace Go.Proofs.YtoimjnmhinfbkaaGreatDoor
open Go.RowKit
set_option maxRecDepth 100000

/-- an owned row, as cells. -/
theorem own_row {w : World} {base : Nat} {e : TypeId} {size : Nat} {v : Value} {n : Nat} {xs : List Value} (h : w.ownsRow base e size v n xs) :
    ∃ A c, v = .slice A n c ∧ n ≤ c ∧ xs.length = n * size ∧ ((A = none ∧ n = 0) ∨ ∃ g, A = some ⟨g, 0, none⟩ ∧ base ≤ g ∧ g < w.heap.size ∧ Row w g 0 xs ∧ ∀ o, w.frozen? ⟨g, o, none⟩ = false) := by
  obtain ⟨hl, ⟨rfl, rfl⟩ | ⟨g, cap, cur, rfl, hb, hg, hn, hm, hs, ht⟩⟩ := h
  · exact ⟨none, 0, rfl, Nat.le_refl _, hl, .inl ⟨rfl, rfl⟩⟩
  · refine ⟨_, cap, rfl, hn, hl, .inr ⟨g, rfl, hb, (Array.getElem?_eq_some_iff.1 hg).1, fun i hi => ?_, fun o => by simp [World.frozen?, hg]⟩⟩
    rw [cell_of_row w g _ cur e (0, 0) hg]
    have h2 : (cur.toList.take (n * size))[i]? = some xs[i] := by rw [ht]; simp
    rw [List.getElem?_take] at h2
    split at h2
    · simpa using h2
    · cases h2

theorem clone_strs (A : Option Addr) (ns : List ByteArray) (c : Nat) (w : World) (S : Nat → Prop) (h : Strs w S A ns) (hn : ns.length ≤ 8388608) :
    Calls Tryz.prog 93 #[.slice A ns.length c] w fun e w' => ∃ A' c', e = .returned (.slice A' ns.length c') ∧ ns.length ≤ c' ∧
      Strs w' (fun b => w.heap.size ≤ b ∧ b < w'.heap.size) A' ns ∧ Below w.heap.size w w' := by
  cases A with
  | none =>
    have hn0 : ns = [] := by rcases h with h | ⟨b, o, h, _⟩; exact h; cases h
    subst hn0
    refine (clone9_nil c w).mono ?_
    rintro e w' ⟨rfl, rfl⟩
    exact ⟨none, 0, rfl, Nat.le_refl _, .inl rfl, Below.refl _ _⟩
  | some a =>
    refine (clone9_some a ns.length c (ns.map Value.string) w (by simp) ?_ ?_ hn).mono ?_
    · intro j u hj
      rcases h with h | ⟨b, o, hA, hS, hr⟩
      · subst h; simp at hj
      · cases hA
        obtain ⟨hj1, rfl⟩ := List.getElem?_eq_some_iff.1 hj
        have := hr j hj1
        rw [Addr.add_lit]; exact this
    · intro u hu
      obtain ⟨_, _, rfl⟩ := List.mem_map.1 hu
      rfl
    · rintro e w' ⟨v, rfl, hown, hb⟩
      obtain ⟨A', c', rfl, hc', hl, h2⟩ := own_row hown
      refine ⟨A', c', rfl, hc', ?_, hb⟩
      rcases h2 with ⟨_, h0⟩ | ⟨g, rfl, h1, h2, h3, _⟩
      · exact .inl (List.eq_nil_of_length_eq_zero h0)
      · exact .inr ⟨g, 0, rfl, ⟨h1, h2⟩, h3⟩

theorem V.Rep.one {w : World} {S : Nat → Prop} {v : V} {cs : List Value} (h : v.Rep w S cs) : ∀ u ∈ cs, u.oneCell' = true := by
  obtain ⟨A, ca, B, cb, rfl, _⟩ := h.open
  intro u hu
  simp at hu
  rcases hu with rfl | rfl | rfl | rfl | rfl <;> rfl

theorem V.Rep.len {w : World} {S : Nat → Prop} {v : V} {cs : List Value} (h : v.Rep w S cs) : cs.length = 5 := by
  obtain ⟨A, ca, B, cb, rfl, _⟩ := h.open
  rfl

/-- the cells of values side by side. -/
theorem V.Reps.flat {w : World} {S : Nat → Prop} {b : Nat} : ∀ {l : List V} {o : Nat}, V.Reps w S b o l →
    ∃ css : List Value, css.length = l.length * 5 ∧ Row w b o css ∧ (∀ u ∈ css, u.oneCell' = true) ∧ ∀ i, ∀ h : i < l.length, (l[i]).Rep w S ((css.drop (5 * i)).take 5) := by
  intro l
  induction l with
  | nil => intro o _; exact ⟨[], rfl, fun i h => by simp at h, fun u h => by simp at h, fun i h => by simp at h⟩
  | cons v vs ih =>
    intro o ⟨⟨cs, hr, hv⟩, h⟩
    obtain ⟨css, hl, hr2, h1, h2⟩ := ih h
    have hlen := hv.len
    refine ⟨cs ++ css, by simp [hl, hlen]; omega, fun i hi => ?_, fun u hu => ?_, fun i hi => ?_⟩
    · by_cases hlt : i < cs.length
      · rw [List.getElem_append_left hlt]; exact hr i hlt
      · have hi' : i - cs.length < css.length := by rw [List.length_append] at hi; omega
        have h3 := hr2 (i - cs.length) hi'
        have e : (cs ++ css)[i] = css[i - cs.length] := List.getElem_append_right (by omega)
        rw [e, ← h3, show o + 5 + (i - cs.length) = o + i from by omega]
    · rcases List.mem_append.1 hu with hu | hu
      · exact hv.one u hu
      · exact h1 u hu
    · cases i with
      | zero =>
        have h5 : ((cs ++ css).drop (5 * 0)).take 5 = cs := by
          rw [Nat.mul_zero, List.drop_zero, ← hlen, List.take_left]
        rw [h5]; exact hv
      | succ i =>
        have h3 := h2 i (by simpa using hi)
        have h5 : ((cs ++ css).drop (5 * (i + 1))).take 5 = (css.drop (5 * i)).take 5 := by
          rw [show 5 * (i + 1) = cs.length + 5 * i from by omega, ← List.drop_drop, List.drop_left]
        rw [h5]; exact h3

theorem row_part {w : World} {b o : Nat} {cs : List Value} (h : Row w b o cs) (i m : Nat) : Row w b (o + i) ((cs.drop i).take m) := by
  intro j hj
  simp at hj
  have := h (i + j) (by omega)
  simpa [Nat.add_assoc] using this

theorem clone_vals (A : Option Addr) (l : List V) (c : Nat) (w : World) (S : Nat → Prop) (h : l = [] ∨ ∃ b o, A = some ⟨b, o, none⟩ ∧ S b ∧ V.Reps w S b o l) (hn : l.length ≤ 8388608) :
    Calls Tryz.prog 94 #[.slice A l.length c] w fun e w' => ∃ A' c', e = .returned (.slice A' l.length c') ∧ l.length ≤ c' ∧ Below w.heap.size w w' ∧
      (l = [] ∨ ∃ g, A' = some ⟨g, 0, none⟩ ∧ w.heap.size ≤ g ∧ g < w'.heap.size ∧ (∀ o, w'.frozen? ⟨g, o, none⟩ = false) ∧ ∀ i, ∀ hi : i < l.length, ∃ cs, Row w' g (5 * i) cs ∧ (l[i]).Rep w S cs) := by
  cases A with
  | none =>
    have hn0 : l = [] := by rcases h with h | ⟨b, o, h, _⟩; exact h; cases h
    subst hn0
    refine (clone27_nil c w).mono ?_
    rintro e w' ⟨rfl, rfl⟩
    exact ⟨none, 0, rfl, Nat.le_refl _, Below.refl _ _, .inl rfl⟩
  | some a =>
    by_cases h0 : l = []
    · subst h0
      refine (clone27_some a 0 c [] w rfl (fun j u hj => by simp at hj) (fun u hu => by simp at hu) (by omega)).mono ?_
      rintro e w' ⟨v, rfl, hown, hb⟩
      obtain ⟨A', c', rfl, hc', hl, h2⟩ := own_row hown
      exact ⟨A', c', rfl, hc', hb, .inl rfl⟩
    · rcases h with h | ⟨b, o, hA, hS, hr⟩
      · exact absurd h h0
      cases hA
      obtain ⟨css, hcl, hrow, hone, hrep⟩ := hr.flat
      refine (clone27_some ⟨b, o, none⟩ l.length c css w hcl ?_ hone hn).mono ?_
      · intro j u hj
        obtain ⟨hj1, rfl⟩ := List.getElem?_eq_some_iff.1 hj
        rw [Addr.add_lit]; exact hrow j hj1
      · rintro e w' ⟨v, rfl, hown, hb⟩
        obtain ⟨A', c', rfl, hc', hl, h2⟩ := own_row hown
        refine ⟨A', c', rfl, hc', hb, ?_⟩
        rcases h2 with ⟨_, h0'⟩ | ⟨g, rfl, h1, h2, h3, h4⟩
        · exact absurd (List.eq_nil_of_length_eq_zero h0') h0
        · exact .inr ⟨g, rfl, h1, h2, h4, fun i hi => ⟨_, by simpa using row_part h3 (5 * i) 5, hrep i hi⟩⟩

/-- what holds at the head of Copy's loop, j elements being copied. -/
def CopyInv (w : World) (S : Nat → Prop) (c : Array Value) (l : List V) (n : List ByteArray) (A : Option Addr) (B : Option Addr) (p j : Nat) (wr : World) : Prop :=
  Below w.heap.size w wr ∧ wr.heap[w.heap.size + 1 + 1]? = some (.cells c 27 (0, 0)) ∧
  wr.heap[w.heap.size + 1]? = some (.cells #[.int .i64 0, .bool false, .string ⟨#[]⟩, .slice none 0 0, .slice none 0 0] 27 (0, 0)) ∧
  w.heap.size + 1 + 1 < p ∧ p ≤ wr.heap.size ∧
  Strs wr (fun b => w.heap.size + 1 + 1 < b ∧ b < p) B n ∧
  (l = [] ∨ ∃ g, A = some ⟨g, 0, none⟩ ∧ p ≤ g ∧ g < wr.heap.size ∧ (∀ o, wr.frozen? ⟨g, o, none⟩ = false) ∧
    ∀ i, ∀ hi : i < l.length, ∃ cs, Row wr g (5 * i) cs ∧ cs.length = 5 ∧ if i < j then (l[i]).Rep wr (fun b => g < b ∧ b < wr.heap.size) cs else (l[i]).Rep w S cs)

theorem setCells_block (b : Nat) : ∀ (vs : List Value) (o : Nat) (w : World) (k : Nat), k ≠ b → (w.setCells b o vs).heap[k]? = w.heap[k]?
  | [], _, _, _, _ => rfl
  | v :: vs, o, w, k, h => (setCells_block b vs (o + 1) (w.setCell ⟨b, o, none⟩ v) k h).trans (Below.heap_setCell w _ v k h)

theorem setCells_below {B : Nat} (b : Nat) (hb : B ≤ b) : ∀ (vs : List Value) (o : Nat) {a w : World}, Below B a w → Below B a (w.setCells b o vs)
  | [], _, _, _, h => h
  | v :: vs, o, _, _, h => setCells_below b hb vs (o + 1) (h.setCell hb v)

theorem setCells_size (b : Nat) (vs : List Value) (o : Nat) (w : World) : (w.setCells b o vs).heap.size = w.heap.size := by
  have h1 := (setCells_below (B := 0) b (Nat.zero_le _) vs o (Below.refl 0 w)).size
  induction vs generalizing o w with
  | nil => rfl
  | cons v vs ih =>
    have := ih (o + 1) (w.setCell ⟨b, o, none⟩ v) (setCells_below (B := 0) b (Nat.zero_le _) vs (o + 1) (Below.refl 0 _)).size
    simp only [World.setCells, this]
    simp [World.setCell]

/-- the round of Copy's loop. -/
theorem copy_round {w : World} {S : Nat → Prop} {c : Array Value} {l : List V} {n : List ByteArray} {g : Nat} {B : Option Addr} {p j : Nat} {wr w' : World}
    (hI : CopyInv w S c l n (some ⟨g, 0, none⟩) B p j wr) (hj : j < l.length) (hb : Below wr.drew.heap.size wr.drew w') {d : List Value}
    (hrep : (l[j]).Rep w' (fun b => wr.drew.heap.size ≤ b ∧ b < w'.heap.size) d) :
    CopyInv w S c l n (some ⟨g, 0, none⟩) B p (j + 1) (w'.setCells g (j * 5) d) := by
  obtain ⟨i1, i2, i3, i4, i5, i6, i7⟩ := hI
  obtain ⟨g', hg, g1, g2, g3, g4⟩ := i7.resolve_left (by rintro rfl; simp at hj)
  cases hg
  have hb2 : Below wr.heap.size wr w' := ⟨hb.os, hb.tape, hb.output, hb.size, hb.block⟩
  have hs := hb2.size
  have hd := hrep.len
  have far : ∀ k, k < wr.heap.size → k ≠ g → (w'.setCells g (j * 5) d).heap[k]? = wr.heap[k]? := fun k h1 h2 => (setCells_block g d _ _ k h2).trans (hb2.block k h1)
  have hB : w.heap.size ≤ g := by omega
  refine ⟨setCells_below g hB d _ (i1.trans (hb2.mono (by have := i1.size; omega))), ?_, ?_, i4, by rw [setCells_size]; omega, ?_, .inr ⟨g, rfl, g1, by rw [setCells_size]; omega, ?_, ?_⟩⟩
  · rw [far _ (by omega) (by omega)]; exact i2
  · rw [far _ (by omega) (by omega)]; exact i3
  · exact i6.agree fun b hb hlt => ⟨far b hlt (by omega), hb⟩
  · intro o
    rw [World.frozen?_setCells, hb2.frozen (p := ⟨g, o, none⟩) g2]
    exact g3 o
  · intro i hi
    obtain ⟨cs, hr, h5, hrep2⟩ := g4 i hi
    have inside : ∀ r, r < 5 → ((w'.cell? ⟨g, j * 5 + r, none⟩).isSome = true) := by
      intro r hr5
      obtain ⟨cs', hr', h5', _⟩ := g4 j hj
      have h7 := hr' r (by omega)
      rw [Nat.mul_comm] at h7
      rw [hb2.cell (p := ⟨g, j * 5 + r, none⟩) g2, h7]
      rfl
    by_cases hij : i = j
    · subst hij
      refine ⟨d, fun r hr5 => ?_, hd, ?_⟩
      · rw [show 5 * i + r = i * 5 + r from by omega]
        exact World.cell?_setCells_in g d (i * 5) w' (fun r hr => inside r (by omega)) r hr5
      · rw [if_pos (by omega)]
        refine hrep.agree (fun b hb hlt => ?_)
        have h8 : wr.heap.size ≤ b ∧ b < w'.heap.size := hb
        exact ⟨setCells_block g d _ _ b (by omega), by omega, by rw [setCells_size]; omega⟩
    · refine ⟨cs, fun r hr5 => ?_, h5, ?_⟩
      · rw [World.cell?_setCells_out g d (j * 5) w' ⟨g, 5 * i + r, none⟩ (fun _ _ => by simp only; omega), hb2.cell (p := ⟨g, 5 * i + r, none⟩) g2]
        exact hr r hr5
      · by_cases hlt : i < j
        · rw [if_pos hlt] at hrep2
          rw [if_pos (by omega)]
          refine hrep2.agree (fun b hb hlt => ⟨far b (by omega) (by omega), by omega, ?_⟩)
          rw [setCells_size]; omega
        · rw [if_neg hlt] at hrep2
          rw [if_neg (by omega)]
          exact hrep2

theorem copy_done {w : World} {S : Nat → Prop} {l : List V} {n : List ByteArray} {A B : Option Addr} {p : Nat} {wr : World} {k : Int} {t : Bool} {x : ByteArray} {ca cb : Nat}
    (hI : CopyInv w S #[.int .i64 k, .bool t, .string x, .slice A l.length ca, .slice B n.length cb] l n A B p l.length wr) (hca : l.length ≤ ca) (hcb : n.length ≤ cb) (d : List Value) :
    (V.mk k t x l n).Rep (wr.setCells (w.heap.size + 1) 0 d) (fun b => w.heap.size ≤ b ∧ b < (wr.setCells (w.heap.size + 1) 0 d).heap.size) [.int .i64 k, .bool t, .string x, .slice A l.length ca, .slice B n.length cb] ∧
      Below w.heap.size w (wr.setCells (w.heap.size + 1) 0 d) := by
  obtain ⟨i1, i2, i3, i4, i5, i6, i7⟩ := hI
  have far : ∀ k, k ≠ w.heap.size + 1 → (wr.setCells (w.heap.size + 1) 0 d).heap[k]? = wr.heap[k]? := fun k h2 => setCells_block _ d _ _ k h2
  refine ⟨⟨A, ca, B, cb, rfl, hca, hcb, ?_, ?_⟩, setCells_below _ (by omega) d _ i1⟩
  · exact i6.agree fun b hb hlt => ⟨far b (by omega), by omega, by rw [setCells_size]; omega⟩
  · rcases i7 with h | ⟨g, hg, g1, g2, g3, g4⟩
    · exact .inl h
    · refine .inr ⟨g, 0, hg, ⟨by omega, by rw [setCells_size]; omega⟩, V.Reps.mk fun i hi => ?_⟩
      obtain ⟨cs, hr, h5, hrep⟩ := g4 i hi
      rw [if_pos hi] at hrep
      refine ⟨cs, ?_, hrep.agree fun b hb hlt => ⟨far b (by omega), by omega, by rw [setCells_size]; omega⟩⟩
      rw [Nat.zero_add]
      exact hr.agree (far g (by omega))

theorem blk_set {w : World} {g : Nat} {t : TypeId} {cs : Array Value} (h : w.heap[g]? = some (.cells cs t (0, 0))) (i : Nat) (u : Value) :
    (w.setCell ⟨g, i, none⟩ u).heap[g]? = some (.cells (cs.setIfInBounds i u) t (0, 0)) := by
  simp [World.setCell, Array.getElem?_modify, h]

theorem setCell_size (w : World) (a : Addr) (u : Value) : (w.setCell a u).heap.size = w.heap.size := by simp [World.setCell]

theorem alloc_at {w : World} {o : Obj} {k : Nat} (h : k = w.heap.size) : (w.alloc o).heap[k]? = some o := by subst h; exact heap_alloc_new w o
theorem alloc_before {w : World} {o : Obj} {k : Nat} (h : k < w.heap.size) : (w.alloc o).heap[k]? = w.heap[k]? := Below.heap_alloc w o k h

theorem copy_start {w : World} {S : Nat → Prop} {l : List V} {n : List ByteArray} {A B A' B' : Option Addr} {W3 w1 w2 : World} {k : Int} {t : Bool} {x : ByteArray} {ca cb ca' cb' : Nat}
    (h3 : Below w.heap.size w W3) (hs3 : W3.heap.size = w.heap.size + 3)
    (hB2 : W3.heap[w.heap.size + 1 + 1]? = some (.cells #[.int .i64 k, .bool t, .string x, .slice A l.length ca, .slice B n.length cb] 27 (0, 0)))
    (hB1 : W3.heap[w.heap.size + 1]? = some (.cells #[.int .i64 0, .bool false, .string ⟨#[]⟩, .slice none 0 0, .slice none 0 0] 27 (0, 0)))
    (hb1 : Below W3.heap.size W3 w1) (hS1 : Strs w1 (fun b => W3.heap.size ≤ b ∧ b < w1.heap.size) B' n)
    (hb2 : Below (w1.setCell ⟨w.heap.size + 1 + 1, 4, none⟩ (.slice B' n.length cb')).heap.size (w1.setCell ⟨w.heap.size + 1 + 1, 4, none⟩ (.slice B' n.length cb')) w2)
    (hrow : l = [] ∨ ∃ g, A' = some ⟨g, 0, none⟩ ∧ (w1.setCell ⟨w.heap.size + 1 + 1, 4, none⟩ (.slice B' n.length cb')).heap.size ≤ g ∧ g < w2.heap.size ∧ (∀ o, w2.frozen? ⟨g, o, none⟩ = false) ∧
      ∀ i, ∀ hi : i < l.length, ∃ cs, Row w2 g (5 * i) cs ∧ (l[i]).Rep (w1.setCell ⟨w.heap.size + 1 + 1, 4, none⟩ (.slice B' n.length cb')) (fun b => S b ∧ b < w.heap.size) cs) :
    CopyInv w S #[.int .i64 k, .bool t, .string x, .slice A' l.length ca', .slice B' n.length cb'] l n A' B' w1.heap.size 0 (w2.setCell ⟨w.heap.size + 1 + 1, 3, none⟩ (.slice A' l.length ca')) := by
  have hs1 := hb1.size
  have hs2 := hb2.size
  rw [setCell_size] at hs2 hb2
  have far : ∀ b, b < w1.heap.size → b ≠ w.heap.size + 1 + 1 → w2.heap[b]? = w1.heap[b]? := fun b h1 h2 => (hb2.block b h1).trans (Below.heap_setCell w1 _ _ b h2)
  have b1 : Below w.heap.size w w1 := h3.trans (hb1.mono (by omega))
  have b2 : Below w.heap.size w (w1.setCell ⟨w.heap.size + 1 + 1, 4, none⟩ (.slice B' n.length cb')) := b1.setCell (by simp only; omega) _
  have b3 : Below w.heap.size w w2 := b2.trans (hb2.mono (by omega))
  refine ⟨b3.setCell (by simp only; omega) _, ?_, ?_, by omega, by rw [setCell_size]; omega, ?_, ?_⟩
  · have h := hb2.block (w.heap.size + 1 + 1) (by omega)
    rw [blk_set ((hb1.block _ (by omega)).trans hB2)] at h
    exact blk_set h 3 _
  · rw [Below.heap_setCell w2 _ _ _ (by simp only; omega), far _ (by omega) (by omega), hb1.block _ (by omega)]
    exact hB1
  · refine hS1.agree fun b hb hlt => ⟨?_, by omega, by omega⟩
    rw [Below.heap_setCell w2 _ _ _ (by simp only; omega), far _ (by omega) (by omega)]
  · rcases hrow with h | ⟨g, hg, g1, g2, g3, g4⟩
    · exact .inl h
    · rw [setCell_size] at g1
      refine .inr ⟨g, hg, g1, by rw [setCell_size]; exact g2, fun o => by rw [World.frozen?_setCell]; exact g3 o, fun i hi => ?_⟩
      obtain ⟨cs, hr, hrep⟩ := g4 i hi
      refine ⟨cs, hr.agree (Below.heap_setCell w2 _ _ _ (by simp only; omega)), hrep.len, ?_⟩
      rw [if_neg (by omega)]
      exact hrep.agree fun b hb hlt => ⟨(b2.block b hb.2).symm, hb.1⟩

theorem copy_keep {W wr w' : World} (hb : Below W.heap.size W w') (hW : W.heap = wr.heap) {x : Value} {p : Addr} {g o : Nat} {c0 c1 c2 c3 c4 : Value} (hp : wr.cell? p = some x)
    (e0 : wr.cell? ⟨g, o, none⟩ = some c0) (e1 : wr.cell? ⟨g, o + 1, none⟩ = some c1) (e2 : wr.cell? ⟨g, o + 2, none⟩ = some c2) (e3 : wr.cell? ⟨g, o + 3, none⟩ = some c3) (e4 : wr.cell? ⟨g, o + 4, none⟩ = some c4)
    (hf : ∀ o, wr.frozen? ⟨g, o, none⟩ = false) :
    w'.cell? p = some x ∧ w'.cell? ⟨g, o, none⟩ = some c0 ∧ w'.cell? ⟨g, o + 1, none⟩ = some c1 ∧ w'.cell? ⟨g, o + 2, none⟩ = some c2 ∧ w'.cell? ⟨g, o + 3, none⟩ = some c3 ∧ w'.cell? ⟨g, o + 4, none⟩ = some c4 ∧
      ∀ o, w'.frozen? ⟨g, o, none⟩ = false := by
  have key : ∀ a y, wr.cell? a = some y → w'.cell? a = some y := fun a y h => by
    have h2 : W.cell? a = some y := by rw [← h]; exact World.cell?_of_block (w := wr) (by rw [hW])
    exact (hb.cell (World.block_lt_of_cell? W a h2)).trans h2
  refine ⟨key _ _ hp, key _ _ e0, key _ _ e1, key _ _ e2, key _ _ e3, key _ _ e4, fun o' => ?_⟩
  have hlt : g < W.heap.size := by rw [hW]; exact World.block_lt_of_cell? wr _ e0
  rw [hb.frozen (p := ⟨g, o', none⟩) hlt, ← hf o']
  exact World.frozen?_of_block (w := wr) (by rw [hW])

set_option maxHeartbeats 800000 in
theorem copy_step (k : Int) (t : Bool) (x : ByteArray) (l : List V) (n : List ByteArray)
    (ih : ∀ v ∈ l, ∀ (cs : List Value) (w : World) (S : Nat → Prop), v.bulk ≤ 4194304 → v.Rep w S cs →
      Calls Tryz.prog 50 #[.agg cs.toArray] w fun e w' => ∃ cs', e = .returned (.agg cs'.toArray) ∧ v.Rep w' (fun b => w.heap.size ≤ b ∧ b < w'.heap.size) cs' ∧ Below w.heap.size w w')
    (A : Option Addr) (ca : Nat) (B : Option Addr) (cb : Nat) (w : World) (S : Nat → Prop) (hca : l.length ≤ ca) (hcb : n.length ≤ cb) (hS : Strs w S B n)
    (hl : l = [] ∨ ∃ b o, A = some ⟨b, o, none⟩ ∧ S b ∧ V.Reps w S b o l) (hn : n.length ≤ 4194304) (hl2 : l.length ≤ 4194304) (hlb : ∀ v ∈ l, v.bulk ≤ 4194304) :
    Calls Tryz.prog 50 #[.agg #[.int .i64 k, .bool t, .string x, .slice A l.length ca, .slice B n.length cb]] w fun e w' =>
      ∃ cs', e = .returned (.agg cs'.toArray) ∧ (V.mk k t x l n).Rep w' (fun b => w.heap.size ≤ b ∧ b < w'.heap.size) cs' ∧ Below w.heap.size w w' := by
  have IH := Lib.hid ih
  have HL := Lib.hid hl
  have HS := Lib.hid hS
  have HLB := Lib.hid hlb
  clear ih hl hS hlb
  go_enter Tryz.func50, Tryz.ntmps50
  go_wp2_with fail
  refine (clone_strs B n cb _ S ?_ (by omega)).mono ?_
  · exact HS.out.agree fun b hb hlt => ⟨below_agree ((((Below.refl w.heap.size w).alloc (Nat.le_refl _) _).alloc (by simp) _).alloc (by simp; omega) _) b hlt, hb⟩
  rintro e w1 ⟨B', cb', rfl, hcb', hS1, hb1⟩
  obtain ⟨hc1, hf1⟩ := bcell hb1
  have hz1 : w.heap.size + 1 + 1 < w1.heap.size := by have := hb1.size; simp at this; omega
  have hz2 : w.heap.size + 1 < w1.heap.size := by omega
  have hz3 : w.heap.size < w1.heap.size := by omega
  have HS1 := Lib.hid hS1
  clear hS1
  go_wp2_with fail
  refine (clone_vals A l ca _ (fun b => S b ∧ b < w.heap.size) ?_ (by omega)).mono ?_
  · have b2 : Below w.heap.size w (w1.setCell ⟨w.heap.size + 1 + 1, 4, none⟩ (.slice B' n.length cb')) :=
      (((((Below.refl w.heap.size w).alloc (Nat.le_refl _) _).alloc (by simp) _).alloc (by simp; omega) _).trans (hb1.mono (by simp; omega))).setCell (by simp only; omega) _
    rcases HL.out with h | ⟨b, o, hA, hS, hr⟩
    · exact .inl h
    · by_cases h0 : l = []
      · exact .inl h0
      have hlt : b < w.heap.size := by
        obtain ⟨cs, hr0, hv⟩ := hr.get 0 (List.length_pos_iff.2 h0)
        exact hr0.lt (by have := hv.len; rintro rfl; simp at this)
      exact .inr ⟨b, o, hA, ⟨hS, hlt⟩, V.Reps.mk fun i hi => by
        obtain ⟨cs, hr0, hv⟩ := hr.get i hi
        exact ⟨cs, hr0.agree (b2.block b hlt), hv.agree fun b hb hlt => ⟨b2.block b hlt, hb, hlt⟩⟩⟩
  rintro e w2 ⟨A', ca', rfl, hca', hb2, hrow⟩
  obtain ⟨hc2, hf2⟩ := bcell hb2
  have hy1 : w.heap.size + 1 + 1 < w2.heap.size := by have := hb2.size; simp at this; omega
  have hy2 : w.heap.size + 1 < w2.heap.size := by omega
  have hy3 : w.heap.size < w2.heap.size := by omega
  have hinv : CopyInv w S #[.int .i64 k, .bool t, .string x, .slice A' l.length ca', .slice B' n.length cb'] l n A' B' w1.heap.size 0 (w2.setCell ⟨w.heap.size + 1 + 1, 3, none⟩ (.slice A' l.length ca')) :=
    copy_start ((((Below.refl w.heap.size w).alloc (Nat.le_refl _) _).alloc (by simp) _).alloc (by simp; omega) _) (by simp) (alloc_at (by simp)) (by rw [alloc_before (by simp)]; exact alloc_at (by simp)) hb1 HS1.out hb2 hrow
  have HI := Lib.hid hinv
  clear hinv
  clear hrow
  go_wp2_with fail
  generalize hww : w2.setCell ⟨w.heap.size + 1 + 1, 3, none⟩ (.slice A' l.length ca') = ww at *
  clear hww
  go_loopw [17] (fun i wr => ∃ j : Nat, j ≤ l.length ∧ i = .int .i64 j ∧ CopyInv w S #[.int .i64 k, .bool t, .string x, .slice A' l.length ca', .slice B' n.length cb'] l n A' B' w1.heap.size j wr) (fun i _ => l.length - (intOf i).toNat)
  case atStart => exact ⟨0, Nat.zero_le _, rfl, HI.out⟩
  case round =>
    obtain ⟨j, hj, rfl, hI⟩ := hrel
    have HI2 := Lib.hid hI
    have HBW := Lib.hid hI.1
    obtain ⟨i1, i2, i3, i4, i5, i6, i7⟩ := hI
    clear HI hc1 hf1 hc2 hf2 hb1 hb2 HS1 hz1 hz2 hz3 hy1 hy2 hy3
    have I3 := Lib.hid i3
    have I2 := Lib.hid i2
    have I6 := Lib.hid i6
    have hb3 := cell_of_row wr (w.heap.size + 1 + 1) 3 _ 27 (0, 0) i2
    simp at hb3
    by_cases hlt : j < l.length
    · obtain ⟨g, rfl, g1, g2, g3, g4⟩ := i7.resolve_left (by rintro rfl; simp at hlt)
      obtain ⟨cs, hr, h5, hrep⟩ := g4 j hlt
      rw [if_neg (by omega)] at hrep
      obtain ⟨c0, c1, c2, c3, c4, rfl⟩ : ∃ c0 c1 c2 c3 c4, cs = [c0, c1, c2, c3, c4] := by
        match cs, h5 with
        | [c0, c1, c2, c3, c4], _ => exact ⟨_, _, _, _, _, rfl⟩
      have e0 := hr 0 (by simp)
      have e1 := hr 1 (by simp)
      have e2 := hr 2 (by simp)
      have e3 := hr 3 (by simp)
      have e4 := hr 4 (by simp)
      simp at e0 e1 e2 e3 e4
      rw [Nat.mul_comm] at e0 e1 e2 e3 e4
      have hlt3 : w.heap.size + 1 + 1 < wr.heap.size := by omega
      have hj0 : (0 : Int) ≤ (j : Int) := Int.natCast_nonneg _
      have hj1 : (j : Int) < (l.length : Int) := by omega
      have G4 := Lib.hid g4
      have hrr : V.Rep wr.drew S l[j] [c0, c1, c2, c3, c4] := V.Rep.agree (w' := wr.drew) (fun b hb hlt => ⟨HBW.out.block b hlt, hb⟩) _ hrep
      have HREP := Lib.hid hrr
      clear hrr
      have HR := Lib.hid hr
      clear g4 hrep hr i2 i3 i6 i7
      go_wp2_with fail
      go_region_with (go_at_call 50; go_must (refine (IH.out _ (List.getElem_mem hlt) [c0, c1, c2, c3, c4] _ S (HLB.out _ (List.getElem_mem hlt)) HREP.out).mono ?_); rintro e w' ⟨cs', rfl, hrep', hb'⟩; obtain ⟨k0, k1, k2, k3, k4, k5, kf⟩ := copy_keep hb' rfl hb3 e0 e1 e2 e3 e4 g3; obtain ⟨A2, ca2, B2, cb2, rfl, -⟩ := hrep'.open; have HREP' := Lib.hid hrep'; clear hrep'; have hlt2 : g < w'.heap.size := by have := hb'.size; simp at this; omega)
      all_goals
        have HN := Lib.hid (copy_round HI2.out hlt hb' HREP'.out)
        clear k0 k1 k2 k3 k4 k5 kf HREP' hb'
        go_wp2
        go_roundw
        case rel => exact ⟨j + 1, hlt, by go_num, HN.out⟩
        case measure => simp [intOf]; omega
    · have hj2 : j = l.length := by omega
      have HJ := Lib.hid hj2
      have hx2 := fun o => cell_of_row wr (w.heap.size + 1 + 1) o _ 27 (0, 0) i2
      have hx1 := fun o => cell_of_row wr (w.heap.size + 1) o _ 27 (0, 0) i3
      have hz1 : ∀ o, wr.frozen? ⟨w.heap.size + 1, o, none⟩ = false := fun o => by simp [World.frozen?, i3]
      clear hb3 i2 i3 i6 i7 hj2
      go_wp2
      obtain rfl := HJ.out
      refine bodyPost_ret (v := .agg #[.int .i64 k, .bool t, .string x, .slice A' l.length ca', .slice B' n.length cb']) (by simp [results, Tryz.results50, go_sem, hx1]) rfl ?_
      have h := copy_done HI2.out hca' hcb' [.int .i64 k, .bool t, .string x, .slice A' l.length ca', .slice B' n.length cb']
      exact ⟨[.int .i64 k, .bool t, .string x, .slice A' l.length ca', .slice B' n.length cb'], rfl, h⟩

/-- Copy: the same value, in new memory. -/
theorem copy_any (v : V) : ∀ (cs : List Value) (w : World) (S : Nat → Prop), v.bulk ≤ 4194304 → v.Rep w S cs →
    Calls Tryz.prog 50 #[.agg cs.toArray] w fun e w' => ∃ cs', e = .returned (.agg cs'.toArray) ∧ v.Rep w' (fun b => w.heap.size ≤ b ∧ b < w'.heap.size) cs' ∧ Below w.heap.size w w' := by
  induction v using V.ind with
  | h k t x l n ih =>
    intro cs w S hb ⟨A, ca, B, cb, hcs, h1, h2, h3, h4⟩
    subst hcs
    simp only [V.bulk] at hb
    have hn := names_length n
    have hl := V.bulks_length l
    exact copy_step k t x l n ih A ca B cb w S h1 h2 h3 h4 (by omega) (by omega) fun v hv => by have := V.bulks_mem hv; omega

end Go.Proofs.YtoimjnmhinfbkaaGreatDoor
