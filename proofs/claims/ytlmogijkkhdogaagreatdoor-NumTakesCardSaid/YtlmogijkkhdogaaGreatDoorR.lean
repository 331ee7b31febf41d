import Derived.WalkKit
import Derived.WalkSpells
import Derived.WalkLawsBesides
import Derived.Lib.Hide
namespace Go.Proofs.YtlmogijkkhdogaaGreatDoor
open Go.RowKit

/-- cells in a row. -/
def Row (w : World) (b o : Nat) (cs : List Value) : Prop := ∀ i, ∀ h : i < cs.length, w.cell? ⟨b, o + i, none⟩ = some cs[i]

theorem cell_of_heap {w w' : World} {b o : Nat} (h : w'.heap[b]? = w.heap[b]?) : w'.cell? ⟨b, o, none⟩ = w.cell? ⟨b, o, none⟩ :=
  World.cell?_of_block (w := w) (a := ⟨b, o, none⟩) h

theorem Row.agree {w w' : World} {b o : Nat} {cs : List Value} (h : Row w b o cs) (hb : w'.heap[b]? = w.heap[b]?) : Row w' b o cs :=
  fun i hi => (cell_of_heap hb).trans (h i hi)

theorem Row.lt {w : World} {b o : Nat} {cs : List Value} (h : Row w b o cs) (hc : cs ≠ []) : b < w.heap.size := by
  cases cs with
  | nil => exact absurd rfl hc
  | cons c cs => exact World.block_lt_of_cell? w _ (h 0 (by simp))

/-- texts in memory: a slice's address, its elements. -/
def Strs (w : World) (S : Nat → Prop) (A : Option Addr) (ns : List ByteArray) : Prop :=
  ns = [] ∨ ∃ b o, A = some ⟨b, o, none⟩ ∧ S b ∧ Row w b o (ns.map Value.string)

theorem Strs.agree {w w' : World} {S S' : Nat → Prop} {A : Option Addr} {ns : List ByteArray} (h : Strs w S A ns)
    (hb : ∀ b, S b → b < w.heap.size → w'.heap[b]? = w.heap[b]? ∧ S' b) : Strs w' S' A ns := by
  rcases h with h | ⟨b, o, hA, hS, hr⟩
  · exact .inl h
  · by_cases hn : ns = []
    · exact .inl hn
    · have hl := hr.lt (by simpa using hn)
      exact .inr ⟨b, o, hA, (hb b hS hl).2, hr.agree (hb b hS hl).1⟩

theorem Strs.cell {w : World} {S : Nat → Prop} {A : Option Addr} {ns : List ByteArray} (h : Strs w S A ns) (i : Nat) (hi : i < ns.length) :
    ∃ b o, A = some ⟨b, o, none⟩ ∧ S b ∧ b < w.heap.size ∧ ∀ j, ∀ hj : j < ns.length, w.cell? ⟨b, o + j, none⟩ = some (.string ns[j]) := by
  rcases h with h | ⟨b, o, hA, hS, hr⟩
  · subst h; simp at hi
  · have hc : ∀ j, ∀ hj : j < ns.length, w.cell? ⟨b, o + j, none⟩ = some (.string ns[j]) := fun j hj => by
      have := hr j (by simpa using hj)
      simpa using this
    exact ⟨b, o, hA, hS, World.block_lt_of_cell? w _ (hc i hi), hc⟩

/-- a value of layer 13, and of its reference. -/
inductive V where
  | mk (k : Int) (t : Bool) (x : ByteArray) (l : List V) (n : List ByteArray)

def V.kind : V → Int | .mk k _ _ _ _ => k
def V.tr : V → Bool | .mk _ t _ _ _ => t
def V.text : V → ByteArray | .mk _ _ x _ _ => x
def V.list : V → List V | .mk _ _ _ l _ => l
def V.names : V → List ByteArray | .mk _ _ _ _ n => n

mutual
def V.bulk : V → Nat
  | .mk _ _ x l n => 1 + x.size + V.bulks l + (n.map fun s => s.size + 1).sum
def V.bulks : List V → Nat
  | [] => 0
  | v :: vs => v.bulk + V.bulks vs
end

mutual
def V.Rep (w : World) (S : Nat → Prop) : V → List Value → Prop
  | .mk k t x l n, cs => ∃ A ca B cb, cs = [.int .i64 k, .bool t, .string x, .slice A l.length ca, .slice B n.length cb] ∧ l.length ≤ ca ∧ n.length ≤ cb ∧
      Strs w S B n ∧ (l = [] ∨ ∃ b o, A = some ⟨b, o, none⟩ ∧ S b ∧ V.Reps w S b o l)
def V.Reps (w : World) (S : Nat → Prop) (b : Nat) : Nat → List V → Prop
  | _, [] => True
  | o, v :: vs => (∃ cs, Row w b o cs ∧ v.Rep w S cs) ∧ V.Reps w S b (o + 5) vs
end

theorem V.bulks_mem {l : List V} {v : V} (h : v ∈ l) : v.bulk ≤ V.bulks l := by
  induction l with
  | nil => cases h
  | cons x xs ih =>
    simp only [V.bulks]
    rcases List.mem_cons.1 h with rfl | h
    · omega
    · have := ih h; omega

theorem V.bulk_pos (v : V) : 0 < v.bulk := by cases v; simp only [V.bulk]; omega

theorem V.bulks_length (l : List V) : l.length ≤ V.bulks l := by
  induction l with
  | nil => simp [V.bulks]
  | cons x xs ih => simp only [V.bulks, List.length_cons]; have := x.bulk_pos; omega

theorem names_length (n : List ByteArray) : n.length ≤ (n.map fun s => s.size + 1).sum := by
  induction n with
  | nil => simp
  | cons x xs ih => simp only [List.length_cons, List.map_cons, List.sum_cons]; omega

theorem names_mem {n : List ByteArray} {s : ByteArray} (h : s ∈ n) : s.size + 1 ≤ (n.map fun s => s.size + 1).sum := by
  induction n with
  | nil => cases h
  | cons x xs ih =>
    simp only [List.map_cons, List.sum_cons]
    rcases List.mem_cons.1 h with rfl | h
    · omega
    · have := ih h; omega

theorem V.ind {p : V → Prop} (h : ∀ k t x l n, (∀ v ∈ l, p v) → p (.mk k t x l n)) (v : V) : p v := by
  have : ∀ m, ∀ v : V, v.bulk ≤ m → p v := by
    intro m
    induction m with
    | zero => intro v hv; have := v.bulk_pos; omega
    | succ m ih =>
      intro v hv
      obtain ⟨k, t, x, l, n⟩ := v
      refine h _ _ _ _ _ fun u hu => ih u ?_
      have := V.bulks_mem hu
      simp only [V.bulk] at hv
      omega
  exact this _ v (Nat.le_refl _)

theorem V.Reps.get {w : World} {S : Nat → Prop} {b : Nat} : ∀ {l : List V} {o : Nat}, V.Reps w S b o l → ∀ i, ∀ h : i < l.length,
    ∃ cs, Row w b (o + 5 * i) cs ∧ (l[i]).Rep w S cs := by
  intro l
  induction l with
  | nil => intro o _ i h; simp at h
  | cons v vs ih =>
    intro o h i hi
    obtain ⟨h0, h1⟩ := h
    cases i with
    | zero => simpa using h0
    | succ i =>
      obtain ⟨cs, hr, hv⟩ := ih h1 i (by simpa using hi)
      refine ⟨cs, ?_, by simpa using hv⟩
      have : o + 5 * (i + 1) = o + 5 + 5 * i := by omega
      rw [this]; exact hr

theorem V.Reps.mk {w : World} {S : Nat → Prop} {b : Nat} : ∀ {l : List V} {o : Nat}, (∀ i, ∀ h : i < l.length, ∃ cs, Row w b (o + 5 * i) cs ∧ (l[i]).Rep w S cs) → V.Reps w S b o l := by
  intro l
  induction l with
  | nil => intro o _; trivial
  | cons v vs ih =>
    intro o h
    refine ⟨by have h0 := h 0 (by simp); rw [List.getElem_cons_zero] at h0; exact h0, ih fun i hi => ?_⟩
    obtain ⟨cs, hr, hv⟩ := h (i + 1) (by simpa using hi)
    refine ⟨cs, ?_, by simpa using hv⟩
    have : o + 5 * (i + 1) = o + 5 + 5 * i := by omega
    rw [← this]; exact hr

theorem V.Rep.agree {w w' : World} {S S' : Nat → Prop} (hb : ∀ b, S b → b < w.heap.size → w'.heap[b]? = w.heap[b]? ∧ S' b) :
    ∀ (v : V) {cs : List Value}, v.Rep w S cs → v.Rep w' S' cs := by
  intro v
  induction v using V.ind with
  | h k t x l n ih =>
    intro cs ⟨A, ca, B, cb, hcs, h1, h2, h3, h4⟩
    refine ⟨A, ca, B, cb, hcs, h1, h2, h3.agree hb, ?_⟩
    rcases h4 with h4 | ⟨b, o, hA, hS, hr⟩
    · exact .inl h4
    · by_cases hl : l = []
      · exact .inl hl
      · have hlt : b < w.heap.size := by
          obtain ⟨v, vs, rfl⟩ := List.exists_cons_of_ne_nil hl
          obtain ⟨⟨cs, hr0, hv⟩, _⟩ := hr
          refine hr0.lt ?_
          rintro rfl
          cases v
          obtain ⟨_, _, _, _, h, _⟩ := hv
          cases h
        refine .inr ⟨b, o, hA, (hb b hS hlt).2, V.Reps.mk fun i hi => ?_⟩
        obtain ⟨cs, hr0, hv⟩ := hr.get i hi
        exact ⟨cs, hr0.agree (hb b hS hlt).1, ih _ (List.getElem_mem _) hv⟩

theorem V.Rep.open {w : World} {S : Nat → Prop} {v : V} {cs : List Value} (h : v.Rep w S cs) : ∃ A ca B cb,
    cs = [.int .i64 v.kind, .bool v.tr, .string v.text, .slice A v.list.length ca, .slice B v.names.length cb] ∧ v.list.length ≤ ca ∧ v.names.length ≤ cb ∧
      Strs w S B v.names ∧ (v.list = [] ∨ ∃ b o, A = some ⟨b, o, none⟩ ∧ S b ∧ V.Reps w S b o v.list) := by
  cases v; exact h

/-- what is below: as it was. -/
theorem below_agree {B : Nat} {w w' : World} (h : Below B w w') (b : Nat) (hb : b < B) : w'.heap[b]? = w.heap[b]? := h.block b hb

theorem bcell {B : Nat} {w w1 : World} (hb : Below B w w1) : (∀ b o, b < B → w1.cell? ⟨b, o, none⟩ = w.cell? ⟨b, o, none⟩) ∧ (∀ b o, b < B → w1.frozen? ⟨b, o, none⟩ = w.frozen? ⟨b, o, none⟩) :=
  ⟨fun b o h => hb.cell (p := ⟨b, o, none⟩) h, fun b o h => hb.frozen (p := ⟨b, o, none⟩) h⟩

/-- blocks with P are as they were. -/
structure Also (P : Nat → Prop) (w w' : World) : Prop where
  size : w.heap.size ≤ w'.heap.size
  block : ∀ b, P b → b < w.heap.size → w'.heap[b]? = w.heap[b]?

theorem Also.refl (P : Nat → Prop) (w : World) : Also P w w := ⟨Nat.le_refl _, fun _ _ _ => rfl⟩
theorem Also.trans {P : Nat → Prop} {a b c : World} (h : Also P a b) (k : Also P b c) : Also P a c :=
  ⟨Nat.le_trans h.size k.size, fun x hx hl => (k.block x hx (Nat.lt_of_lt_of_le hl h.size)).trans (h.block x hx hl)⟩
theorem Also.alloc {P : Nat → Prop} {a w : World} (h : Also P a w) (o : Obj) : Also P a (w.alloc o) :=
  h.trans ⟨by simp, fun b _ hl => Below.heap_alloc w o b hl⟩
theorem Also.drew {P : Nat → Prop} {a w : World} (h : Also P a w) : Also P a w.drew := ⟨h.size, h.block⟩
theorem Also.drewN {P : Nat → Prop} {a w : World} (h : Also P a w) (n : Nat) : Also P a (w.drewN n) := ⟨h.size, h.block⟩
theorem Also.setCell {P : Nat → Prop} {a w : World} (h : Also P a w) {p : Addr} (hp : ¬ P p.block) (u : Value) : Also P a (w.setCell p u) :=
  h.trans ⟨by simp [World.setCell], fun b hb _ => Below.heap_setCell w p u b (by rintro rfl; exact hp hb)⟩
theorem Also.below {P : Nat → Prop} {a w w' : World} {B : Nat} (h : Also P a w) (hb : Below B w w') (hB : w.heap.size ≤ B) : Also P a w' :=
  h.trans ⟨hb.size, fun b _ hl => hb.block b (Nat.lt_of_lt_of_le hl hB)⟩
theorem Also.mono {P Q : Nat → Prop} {a w : World} (h : Also P a w) (hq : ∀ b, Q b → P b) : Also Q a w := ⟨h.size, fun b hb hl => h.block b (hq b hb) hl⟩

theorem V.Rep.also {w w' : World} {P S S' : Nat → Prop} {v : V} {cs : List Value} (h : v.Rep w S cs) (ha : Also P w w') (hs : ∀ b, S b → b < w.heap.size → P b ∧ S' b) : v.Rep w' S' cs :=
  h.agree fun b hb hl => ⟨ha.block b (hs b hb hl).1 hl, (hs b hb hl).2⟩
theorem Strs.also {w w' : World} {P S S' : Nat → Prop} {A : Option Addr} {ns : List ByteArray} (h : Strs w S A ns) (ha : Also P w w') (hs : ∀ b, S b → b < w.heap.size → P b ∧ S' b) : Strs w' S' A ns :=
  h.agree fun b hb hl => ⟨ha.block b (hs b hb hl).1 hl, (hs b hb hl).2⟩

end Go.Proofs.YtlmogijkkhdogaaGreatDoor
