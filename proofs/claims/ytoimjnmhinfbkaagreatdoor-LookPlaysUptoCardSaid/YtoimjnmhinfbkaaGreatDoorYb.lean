import Derived.Test.YtoimjnmhinfbkaaGreatDoorMc
import Derived.Deep.RegionHeld3
import Derived.Test.YtoimjnmhinfbkaaGreatDoorMa
import Derived.Test.YtoimjnmhinfbkaaGreatDoorL
import Derived.Test.YtoimjnmhinfbkaaGreatDoorYa
namespace Go.Proofs.YtoimjnmhinfbkaaGreatDoor
open Go.RowKit
set_option maxRecDepth 100000

/-- an act of the script: its parts, its texts. -/
structure AV where
  kd : Int
  n : Int
  most : Int
  name : ByteArray
  ts : List ByteArray

def Acts (w : World) (T : Option Addr) (av : List AV) : Prop :=
  av = [] ∨ ∃ b o, T = some ⟨b, o, none⟩ ∧ b < w.heap.size ∧ ∀ j, ∀ hj : j < av.length, ∃ TT ct ST, Row w b (o + 5 * j) [.int .i64 av[j].kd, .int .i64 av[j].n, .int .i64 av[j].most, .string av[j].name, .slice TT av[j].ts.length ct] ∧ Strs w ST TT av[j].ts

/-- the two looks in their boxes: one value, one place. -/
def Looks (lo : Nat) (b5 b6 : Nat) (v : V) (p : ByteArray) (W : World) : Prop :=
  lo ≤ b5 ∧ lo ≤ b6 ∧ b5 ≠ b6 ∧ ∃ (cs cs' : List Value) (S S' : Nat → Prop), (∀ b, S b → b ≠ b5 ∧ b ≠ b6) ∧ (∀ b, S' b → b ≠ b5 ∧ b ≠ b6) ∧
    W.heap[b5]? = some (.cells (cs ++ [Value.string p]).toArray 32 (0, 0)) ∧ v.Rep W S cs ∧ W.heap[b6]? = some (.cells (cs' ++ [Value.string p, .int .i64 0, .string ⟨#[]⟩]).toArray 46 (0, 0)) ∧ v.Rep W S' cs'

/-- a look's and a document's look's box, new. -/
abbrev Z32 : Array Value := #[.int .i64 0, .bool false, .string ⟨#[]⟩, .slice none 0 0, .slice none 0 0, .string ⟨#[]⟩]
abbrev Z46 : Array Value := #[.int .i64 0, .bool false, .string ⟨#[]⟩, .slice none 0 0, .slice none 0 0, .string ⟨#[]⟩, .int .i64 0, .string ⟨#[]⟩]

/-- the region that lays the two looks, in its midst: what of it is done, in whatever order. -/
def Mid (w : World) (v : V) (cv : List Value) (o5 o6 : Option Nat) (c3 c4 : Option (List Value)) (W : World) : Prop :=
  Below w.heap.size w W ∧ w.heap.size < W.heap.size ∧ W.heap[w.heap.size]? = some (.cells cv.toArray 27 (0, 0)) ∧
    (∀ b, o5 = some b → w.heap.size < b ∧ W.heap[b]? = some (.cells Z32 32 (0, 0))) ∧ (∀ b, o6 = some b → w.heap.size < b ∧ W.heap[b]? = some (.cells Z46 46 (0, 0))) ∧ (∀ a b, o5 = some a → o6 = some b → a ≠ b) ∧
    (∀ cs, c3 = some cs → ∃ S, v.Rep W S cs ∧ ∀ b, S b → b < W.heap.size ∧ o5 ≠ some b ∧ o6 ≠ some b) ∧ (∀ cs, c4 = some cs → ∃ S, v.Rep W S cs ∧ ∀ b, S b → b < W.heap.size ∧ o5 ≠ some b ∧ o6 ≠ some b)

theorem Mid.step {w : World} {v : V} {cv : List Value} {o5 o6 : Option Nat} {c3 c4 : Option (List Value)} {W W' : World} (h : Mid w v cv o5 o6 c3 c4 W) (hb : Below W.heap.size W W') : Mid w v cv o5 o6 c3 c4 W' := by
  obtain ⟨h1, h2, h3, h4, h5, h6, h7, h8⟩ := h
  have hs := hb.size
  refine ⟨h1.trans (hb.mono h1.size), by omega, (hb.block _ h2).trans h3, fun b e => ?_, fun b e => ?_, h6, fun cs e => ?_, fun cs e => ?_⟩
  · obtain ⟨a, c⟩ := h4 b e
    exact ⟨a, (hb.block _ (Array.getElem?_eq_some_iff.1 c).1).trans c⟩
  · obtain ⟨a, c⟩ := h5 b e
    exact ⟨a, (hb.block _ (Array.getElem?_eq_some_iff.1 c).1).trans c⟩
  · obtain ⟨S, a, c⟩ := h7 cs e
    exact ⟨S, a.agree fun b hb' hlt => ⟨hb.block _ hlt, hb'⟩, fun b hb' => ⟨by have := (c b hb').1; omega, (c b hb').2⟩⟩
  · obtain ⟨S, a, c⟩ := h8 cs e
    exact ⟨S, a.agree fun b hb' hlt => ⟨hb.block _ hlt, hb'⟩, fun b hb' => ⟨by have := (c b hb').1; omega, (c b hb').2⟩⟩

theorem Mid.lay5 {w : World} {v : V} {cv : List Value} {o6 : Option Nat} {c3 c4 : Option (List Value)} {W : World} (h : Mid w v cv none o6 c3 c4 W) : Mid w v cv (some W.heap.size) o6 c3 c4 (W.alloc (.cells Z32 32)) := by
  obtain ⟨h1, h2, h3, h4, h5, h6, h7, h8⟩ := h.step ((Below.refl W.heap.size W).alloc (Nat.le_refl _) (.cells Z32 32))
  obtain ⟨k1, k2, k3, k4, k5, k6, k7, k8⟩ := h
  refine ⟨h1, h2, h3, fun b e => ?_, h5, fun a b e e' => ?_, fun cs e => ?_, fun cs e => ?_⟩
  · cases e; exact ⟨k2, heap_alloc_new W _⟩
  · cases e; have := (Array.getElem?_eq_some_iff.1 (k5 b e').2).1; omega
  · obtain ⟨S, a, c⟩ := k7 cs e
    exact ⟨S, a.agree fun b hb' hlt => ⟨alloc_before hlt, hb'⟩, fun b hb' => ⟨by have := (c b hb').1; simp; omega, fun e => by have := (c b hb').1; cases e; omega, (c b hb').2.2⟩⟩
  · obtain ⟨S, a, c⟩ := k8 cs e
    exact ⟨S, a.agree fun b hb' hlt => ⟨alloc_before hlt, hb'⟩, fun b hb' => ⟨by have := (c b hb').1; simp; omega, fun e => by have := (c b hb').1; cases e; omega, (c b hb').2.2⟩⟩

theorem Mid.lay6 {w : World} {v : V} {cv : List Value} {o5 : Option Nat} {c3 c4 : Option (List Value)} {W : World} (h : Mid w v cv o5 none c3 c4 W) : Mid w v cv o5 (some W.heap.size) c3 c4 (W.alloc (.cells Z46 46)) := by
  obtain ⟨h1, h2, h3, h4, h5, h6, h7, h8⟩ := h.step ((Below.refl W.heap.size W).alloc (Nat.le_refl _) (.cells Z46 46))
  obtain ⟨k1, k2, k3, k4, k5, k6, k7, k8⟩ := h
  refine ⟨h1, h2, h3, h4, fun b e => ?_, fun a b e e' => ?_, fun cs e => ?_, fun cs e => ?_⟩
  · cases e; exact ⟨k2, heap_alloc_new W _⟩
  · cases e'; have := (Array.getElem?_eq_some_iff.1 (k4 a e).2).1; omega
  · obtain ⟨S, a, c⟩ := k7 cs e
    exact ⟨S, a.agree fun b hb' hlt => ⟨alloc_before hlt, hb'⟩, fun b hb' => ⟨by have := (c b hb').1; simp; omega, (c b hb').2.1, fun e => by have := (c b hb').1; cases e; omega⟩⟩
  · obtain ⟨S, a, c⟩ := k8 cs e
    exact ⟨S, a.agree fun b hb' hlt => ⟨alloc_before hlt, hb'⟩, fun b hb' => ⟨by have := (c b hb').1; simp; omega, (c b hb').2.1, fun e => by have := (c b hb').1; cases e; omega⟩⟩

theorem Mid.of {w : World} {v : V} {cv : List Value} {o5 o6 : Option Nat} {c4 : Option (List Value)} {W : World} {S : Nat → Prop} (h : Mid w v cv o5 o6 none c4 W) (hv : v.Rep w S cv) (hbk : v.bulk ≤ 4194304) :
    Calls Tryz.prog 12 #[.agg cv.toArray] W fun e w' => ∃ cs, e = .returned (.agg (cs ++ [Value.string ⟨#[]⟩]).toArray) ∧ Mid w v cv o5 o6 (some cs) c4 w' ∧ ∃ S', v.Rep w' S' cs := by
  refine (of_any v cv W S (hv.agree fun b hb hlt => ⟨h.1.block b hlt, hb⟩) hbk).mono ?_
  rintro e w' ⟨cs, he, hr, hb⟩
  refine ⟨cs, he, ?_, _, hr⟩
  obtain ⟨h1, h2, h3, h4, h5, h6, h7, h8⟩ := h.step hb
  obtain ⟨k1, k2, k3, k4, k5, k6, k7, k8⟩ := h
  refine ⟨h1, h2, h3, h4, h5, h6, fun cs' e => ?_, h8⟩
  cases e
  exact ⟨_, hr, fun b hb' => ⟨hb'.2, fun e => by have := (Array.getElem?_eq_some_iff.1 (k4 b e).2).1; omega, fun e => by have := (Array.getElem?_eq_some_iff.1 (k5 b e).2).1; omega⟩⟩

theorem Mid.doc {w : World} {v : V} {cv : List Value} {o5 o6 : Option Nat} {c3 : Option (List Value)} {W : World} {S : Nat → Prop} (h : Mid w v cv o5 o6 c3 none W) (hv : v.Rep w S cv) (hbk : v.bulk ≤ 4194304) :
    Calls Tryz.prog 17 #[.agg cv.toArray] W fun e w' => ∃ cs, e = .returned (.agg cs.toArray) ∧ Mid w v cv o5 o6 c3 (some cs) w' ∧ ∃ S', v.Rep w' S' cs := by
  refine (document_any v cv W (fun b => S b ∧ b < w.heap.size) hbk (hv.agree fun b hb hlt => ⟨h.1.block b hlt, hb, hlt⟩)).mono ?_
  rintro e w' ⟨cs, he, hr, hb⟩
  refine ⟨cs, he, ?_, _, hr⟩
  obtain ⟨h1, h2, h3, h4, h5, h6, h7, h8⟩ := h.step hb
  obtain ⟨k1, k2, k3, k4, k5, k6, k7, k8⟩ := h
  have hs := hb.size
  refine ⟨h1, h2, h3, h4, h5, h6, h7, fun cs' e => ?_⟩
  cases e
  refine ⟨_, hr, fun b hb' => ⟨?_, fun e => ?_, fun e => ?_⟩⟩
  · rcases hb' with h | h <;> omega
  · have := (k4 b e).1
    have := (Array.getElem?_eq_some_iff.1 (k4 b e).2).1
    rcases hb' with h | h <;> omega
  · have := (k5 b e).1
    have := (Array.getElem?_eq_some_iff.1 (k5 b e).2).1
    rcases hb' with h | h <;> omega

theorem Mid.boxes {w : World} {v : V} {cv c3 c4 : List Value} {b5 b6 : Nat} {W : World} (h : Mid w v cv (some b5) (some b6) (some c3) (some c4) W) :
    (∀ o, W.cell? ⟨b5, o, none⟩ = Z32[o]?) ∧ (∀ o, W.frozen? ⟨b5, o, none⟩ = false) ∧ (∀ o, W.cell? ⟨b6, o, none⟩ = Z46[o]?) ∧ (∀ o, W.frozen? ⟨b6, o, none⟩ = false) ∧ ¬ b5 = b6 ∧ ¬ b6 = b5 := by
  obtain ⟨k1, k2, k3, k4, k5, k6, k7, k8⟩ := h
  exact ⟨fun o => cell_of_row W b5 o _ 32 (0, 0) (k4 _ rfl).2, fun o => by simp [World.frozen?, (k4 _ rfl).2], fun o => cell_of_row W b6 o _ 46 (0, 0) (k5 _ rfl).2, fun o => by simp [World.frozen?, (k5 _ rfl).2], k6 _ _ rfl rfl, fun e => k6 _ _ rfl rfl e.symm⟩

theorem to_met {J K : Go.Act → World → Prop} {P : Go.Act → World → Prop} {Q : Exit → Go.Act → World → Prop} {a : Go.Act} {w : World} (k : ∀ a w, Met J a w → K a w) (h : ∀ a w, P a w → J a w) (hp : P a w) : Exit.then K Q Exit.normal a w := k _ _ (Met.intro (h _ _ hp))

theorem Mid.at5 {w : World} {v : V} {cv : List Value} {b5 : Nat} {o6 : Option Nat} {c3 c4 : Option (List Value)} {W : World} (h : Mid w v cv (some b5) o6 c3 c4 W) : W.heap[b5]? = some (.cells Z32 32 (0, 0)) := (h.2.2.2.1 _ rfl).2
theorem Mid.at6 {w : World} {v : V} {cv : List Value} {o5 : Option Nat} {b6 : Nat} {c3 c4 : Option (List Value)} {W : World} (h : Mid w v cv o5 (some b6) c3 c4 W) : W.heap[b6]? = some (.cells Z46 46 (0, 0)) := (h.2.2.2.2.1 _ rfl).2

theorem Mid.looks {w : World} {v : V} {cv c3 c4 : List Value} {b5 b6 : Nat} {W W' : World} {p : ByteArray} (h : Mid w v cv (some b5) (some b6) (some c3) (some c4) W) (ha : Also (fun b => b ≠ b5 ∧ b ≠ b6) W W') (hb : Below w.heap.size W W')
    (h5 : W'.heap[b5]? = some (.cells (c3 ++ [Value.string p]).toArray 32 (0, 0))) (h6 : W'.heap[b6]? = some (.cells (c4 ++ [Value.string p, .int .i64 0, .string ⟨#[]⟩]).toArray 46 (0, 0))) :
    Below w.heap.size w W' ∧ Looks w.heap.size b5 b6 v p W' := by
  obtain ⟨k1, k2, k3, k4, k5, k6, k7, k8⟩ := h
  obtain ⟨S3, r3, e3⟩ := k7 _ rfl
  obtain ⟨S4, r4, e4⟩ := k8 _ rfl
  have q3 : ∀ b, S3 b → b ≠ b5 ∧ b ≠ b6 := fun b hb => ⟨fun e => (e3 b hb).2.1 (by rw [e]), fun e => (e3 b hb).2.2 (by rw [e])⟩
  have q4 : ∀ b, S4 b → b ≠ b5 ∧ b ≠ b6 := fun b hb => ⟨fun e => (e4 b hb).2.1 (by rw [e]), fun e => (e4 b hb).2.2 (by rw [e])⟩
  exact ⟨k1.trans hb, Nat.le_of_lt (k4 _ rfl).1, Nat.le_of_lt (k5 _ rfl).1, k6 _ _ rfl rfl, c3, c4, S3, S4, q3, q4, h5, r3.also ha fun b hb _ => ⟨q3 b hb, hb⟩, h6, r4.also ha fun b hb _ => ⟨q4 b hb, hb⟩⟩

theorem Mid.done {w : World} {v : V} {cv : List Value} {b5 b6 : Nat} {W : World} {a0 a1 a2 a3 a4 d0 d1 d2 d3 d4 : Value} (h : Mid w v cv (some b5) (some b6) (some [a0, a1, a2, a3, a4]) (some [d0, d1, d2, d3, d4]) W) :
    Below w.heap.size w ((((((((((((((W.setCell ⟨b5, 0, none⟩ a0).setCell ⟨b5, 1, none⟩ a1).setCell ⟨b5, 2, none⟩ a2).setCell ⟨b5, 3, none⟩ a3).setCell ⟨b5, 4, none⟩ a4).setCell ⟨b5, 5, none⟩ (.string ⟨#[]⟩)).setCell ⟨b6, 0, none⟩ d0).setCell ⟨b6, 1, none⟩ d1).setCell ⟨b6, 2, none⟩ d2).setCell ⟨b6, 3, none⟩ d3).setCell ⟨b6, 4, none⟩ d4).setCell ⟨b6, 5, none⟩ (.string ⟨#[]⟩)).setCell ⟨b6, 6, none⟩ (.int .i64 0)).setCell ⟨b6, 7, none⟩ (.string ⟨#[]⟩)) ∧ Looks w.heap.size b5 b6 v ⟨#[]⟩ ((((((((((((((W.setCell ⟨b5, 0, none⟩ a0).setCell ⟨b5, 1, none⟩ a1).setCell ⟨b5, 2, none⟩ a2).setCell ⟨b5, 3, none⟩ a3).setCell ⟨b5, 4, none⟩ a4).setCell ⟨b5, 5, none⟩ (.string ⟨#[]⟩)).setCell ⟨b6, 0, none⟩ d0).setCell ⟨b6, 1, none⟩ d1).setCell ⟨b6, 2, none⟩ d2).setCell ⟨b6, 3, none⟩ d3).setCell ⟨b6, 4, none⟩ d4).setCell ⟨b6, 5, none⟩ (.string ⟨#[]⟩)).setCell ⟨b6, 6, none⟩ (.int .i64 0)).setCell ⟨b6, 7, none⟩ (.string ⟨#[]⟩)) := by
  obtain ⟨-, -, -, -, hne, hne'⟩ := h.boxes
  have h1 := (h.2.2.2.1 _ rfl).1
  have h2 := (h.2.2.2.2.1 _ rfl).1
  refine h.looks ?_ ?_ ?_ ?_
  · have e5 : ¬ (b5 ≠ b5 ∧ b5 ≠ b6) := fun e => e.1 rfl
    have e6 : ¬ (b6 ≠ b5 ∧ b6 ≠ b6) := fun e => e.2 rfl
    exact (Also.setCell (p := ⟨b6, 7, none⟩) (Also.setCell (p := ⟨b6, 6, none⟩) (Also.setCell (p := ⟨b6, 5, none⟩) (Also.setCell (p := ⟨b6, 4, none⟩) (Also.setCell (p := ⟨b6, 3, none⟩) (Also.setCell (p := ⟨b6, 2, none⟩) (Also.setCell (p := ⟨b6, 1, none⟩) (Also.setCell (p := ⟨b6, 0, none⟩) (Also.setCell (p := ⟨b5, 5, none⟩) (Also.setCell (p := ⟨b5, 4, none⟩) (Also.setCell (p := ⟨b5, 3, none⟩) (Also.setCell (p := ⟨b5, 2, none⟩) (Also.setCell (p := ⟨b5, 1, none⟩) (Also.setCell (p := ⟨b5, 0, none⟩) (Also.refl _ W) e5 _) e5 _) e5 _) e5 _) e5 _) e5 _) e6 _) e6 _) e6 _) e6 _) e6 _) e6 _) e6 _) e6 _)
  · have e5 : w.heap.size ≤ b5 := by omega
    have e6 : w.heap.size ≤ b6 := by omega
    exact (Below.setCell (p := ⟨b6, 7, none⟩) (Below.setCell (p := ⟨b6, 6, none⟩) (Below.setCell (p := ⟨b6, 5, none⟩) (Below.setCell (p := ⟨b6, 4, none⟩) (Below.setCell (p := ⟨b6, 3, none⟩) (Below.setCell (p := ⟨b6, 2, none⟩) (Below.setCell (p := ⟨b6, 1, none⟩) (Below.setCell (p := ⟨b6, 0, none⟩) (Below.setCell (p := ⟨b5, 5, none⟩) (Below.setCell (p := ⟨b5, 4, none⟩) (Below.setCell (p := ⟨b5, 3, none⟩) (Below.setCell (p := ⟨b5, 2, none⟩) (Below.setCell (p := ⟨b5, 1, none⟩) (Below.setCell (p := ⟨b5, 0, none⟩) (Below.refl _ W) e5 _) e5 _) e5 _) e5 _) e5 _) e5 _) e6 _) e6 _) e6 _) e6 _) e6 _) e6 _) e6 _) e6 _)
  · have h5 := h.at5
    have k := blk_set (blk_set (blk_set (blk_set (blk_set (blk_set h5 0 a0) 1 a1) 2 a2) 3 a3) 4 a4) 5 (.string ⟨#[]⟩)
    exact (Below.heap_setCell _ ⟨b6, 7, none⟩ _ _ hne).trans ((Below.heap_setCell _ ⟨b6, 6, none⟩ _ _ hne).trans ((Below.heap_setCell _ ⟨b6, 5, none⟩ _ _ hne).trans ((Below.heap_setCell _ ⟨b6, 4, none⟩ _ _ hne).trans ((Below.heap_setCell _ ⟨b6, 3, none⟩ _ _ hne).trans ((Below.heap_setCell _ ⟨b6, 2, none⟩ _ _ hne).trans ((Below.heap_setCell _ ⟨b6, 1, none⟩ _ _ hne).trans ((Below.heap_setCell _ ⟨b6, 0, none⟩ _ _ hne).trans (k))))))))
  · have h6 := h.at6
    have k := ((Below.heap_setCell _ ⟨b5, 5, none⟩ (.string ⟨#[]⟩) _ hne').trans ((Below.heap_setCell _ ⟨b5, 4, none⟩ a4 _ hne').trans ((Below.heap_setCell _ ⟨b5, 3, none⟩ a3 _ hne').trans ((Below.heap_setCell _ ⟨b5, 2, none⟩ a2 _ hne').trans ((Below.heap_setCell _ ⟨b5, 1, none⟩ a1 _ hne').trans ((Below.heap_setCell _ ⟨b5, 0, none⟩ a0 _ hne').trans h6))))))
    have k2 := blk_set (blk_set (blk_set (blk_set (blk_set (blk_set (blk_set (blk_set k 0 d0) 1 d1) 2 d2) 3 d3) 4 d4) 5 (.string ⟨#[]⟩)) 6 (.int .i64 0)) 7 (.string ⟨#[]⟩)
    refine k2.trans ?_
    simp [Z46]

theorem act_at (u : V) {p : ByteArray} {kd n most : Int} {name : ByteArray} {ts : List ByteArray} (hb : u.mass ≤ 1050000) (hp : p.size ≤ 100000000) (hn : name.size ≤ 1000) (ht : ts.length ≤ 8388608) : ActC u p kd n most name ts := by
  cases u
  exact act_any hb hp hn ht

theorem cells13 {W : World} {g9 g10 g11 g12 : Nat} {a0 a1 a2 a3 a4 a5 b0 b1 b2 b3 b4 c0 c1 c2 c3 c4 c5 c6 c7 d0 d1 d2 d3 d4 : Value} (h9 : W.heap[g9]? = some (.cells #[a0, a1, a2, a3, a4, a5] 32 (0, 0))) (h10 : W.heap[g10]? = some (.cells #[b0, b1, b2, b3, b4] 50 (0, 0)))
    (h11 : W.heap[g11]? = some (.cells #[c0, c1, c2, c3, c4, c5, c6, c7] 46 (0, 0))) (h12 : W.heap[g12]? = some (.cells #[d0, d1, d2, d3, d4] 50 (0, 0))) :
    W.cell? ⟨g9, 0, none⟩ = some a0 ∧ W.cell? ⟨g9, 1, none⟩ = some a1 ∧ W.cell? ⟨g9, 2, none⟩ = some a2 ∧ W.cell? ⟨g9, 3, none⟩ = some a3 ∧ W.cell? ⟨g9, 4, none⟩ = some a4 ∧ W.cell? ⟨g9, 5, none⟩ = some a5 ∧ W.cell? ⟨g10, 0, none⟩ = some b0 ∧ W.cell? ⟨g10, 1, none⟩ = some b1 ∧ W.cell? ⟨g10, 2, none⟩ = some b2 ∧ W.cell? ⟨g10, 3, none⟩ = some b3 ∧ W.cell? ⟨g10, 4, none⟩ = some b4 ∧ W.cell? ⟨g11, 0, none⟩ = some c0 ∧ W.cell? ⟨g11, 1, none⟩ = some c1 ∧ W.cell? ⟨g11, 2, none⟩ = some c2 ∧ W.cell? ⟨g11, 3, none⟩ = some c3 ∧ W.cell? ⟨g11, 4, none⟩ = some c4 ∧ W.cell? ⟨g11, 5, none⟩ = some c5 ∧ W.cell? ⟨g12, 0, none⟩ = some d0 ∧ W.cell? ⟨g12, 1, none⟩ = some d1 ∧ W.cell? ⟨g12, 2, none⟩ = some d2 ∧ W.cell? ⟨g12, 3, none⟩ = some d3 ∧ W.cell? ⟨g12, 4, none⟩ = some d4 := by
  refine ⟨?_, ?_, ?_, ?_, ?_, ?_, ?_, ?_, ?_, ?_, ?_, ?_, ?_, ?_, ?_, ?_, ?_, ?_, ?_, ?_, ?_, ?_⟩
  · exact cell_of_row W g9 0 _ 32 (0, 0) h9
  · exact cell_of_row W g9 1 _ 32 (0, 0) h9
  · exact cell_of_row W g9 2 _ 32 (0, 0) h9
  · exact cell_of_row W g9 3 _ 32 (0, 0) h9
  · exact cell_of_row W g9 4 _ 32 (0, 0) h9
  · exact cell_of_row W g9 5 _ 32 (0, 0) h9
  · exact cell_of_row W g10 0 _ 50 (0, 0) h10
  · exact cell_of_row W g10 1 _ 50 (0, 0) h10
  · exact cell_of_row W g10 2 _ 50 (0, 0) h10
  · exact cell_of_row W g10 3 _ 50 (0, 0) h10
  · exact cell_of_row W g10 4 _ 50 (0, 0) h10
  · exact cell_of_row W g11 0 _ 46 (0, 0) h11
  · exact cell_of_row W g11 1 _ 46 (0, 0) h11
  · exact cell_of_row W g11 2 _ 46 (0, 0) h11
  · exact cell_of_row W g11 3 _ 46 (0, 0) h11
  · exact cell_of_row W g11 4 _ 46 (0, 0) h11
  · exact cell_of_row W g11 5 _ 46 (0, 0) h11
  · exact cell_of_row W g12 0 _ 50 (0, 0) h12
  · exact cell_of_row W g12 1 _ 50 (0, 0) h12
  · exact cell_of_row W g12 2 _ 50 (0, 0) h12
  · exact cell_of_row W g12 3 _ 50 (0, 0) h12
  · exact cell_of_row W g12 4 _ 50 (0, 0) h12

theorem looks_set {lo b5 b6 : Nat} {v : V} {p : ByteArray} {W : World} {S S' : Nat → Prop} {a0 a1 a2 a3 a4 d0 d1 d2 d3 d4 x0 x1 x2 x3 x4 x5 y0 y1 y2 y3 y4 y5 y6 y7 : Value} (l5 : lo ≤ b5) (l6 : lo ≤ b6) (ne : b5 ≠ b6) (h5 : W.heap[b5]? = some (.cells #[x0, x1, x2, x3, x4, x5] 32 (0, 0))) (h6 : W.heap[b6]? = some (.cells #[y0, y1, y2, y3, y4, y5, y6, y7] 46 (0, 0)))
    (r : v.Rep W S [a0, a1, a2, a3, a4]) (r' : v.Rep W S' [d0, d1, d2, d3, d4]) (hS : ∀ b, S b → b ≠ b5 ∧ b ≠ b6) (hS' : ∀ b, S' b → b ≠ b5 ∧ b ≠ b6) :
    Below lo W ((((((((((((((W.setCell ⟨b5, 0, none⟩ a0).setCell ⟨b5, 1, none⟩ a1).setCell ⟨b5, 2, none⟩ a2).setCell ⟨b5, 3, none⟩ a3).setCell ⟨b5, 4, none⟩ a4).setCell ⟨b5, 5, none⟩ (.string p)).setCell ⟨b6, 0, none⟩ d0).setCell ⟨b6, 1, none⟩ d1).setCell ⟨b6, 2, none⟩ d2).setCell ⟨b6, 3, none⟩ d3).setCell ⟨b6, 4, none⟩ d4).setCell ⟨b6, 5, none⟩ (.string p)).setCell ⟨b6, 6, none⟩ (.int .i64 0)).setCell ⟨b6, 7, none⟩ (.string ⟨#[]⟩)) ∧ Looks lo b5 b6 v p ((((((((((((((W.setCell ⟨b5, 0, none⟩ a0).setCell ⟨b5, 1, none⟩ a1).setCell ⟨b5, 2, none⟩ a2).setCell ⟨b5, 3, none⟩ a3).setCell ⟨b5, 4, none⟩ a4).setCell ⟨b5, 5, none⟩ (.string p)).setCell ⟨b6, 0, none⟩ d0).setCell ⟨b6, 1, none⟩ d1).setCell ⟨b6, 2, none⟩ d2).setCell ⟨b6, 3, none⟩ d3).setCell ⟨b6, 4, none⟩ d4).setCell ⟨b6, 5, none⟩ (.string p)).setCell ⟨b6, 6, none⟩ (.int .i64 0)).setCell ⟨b6, 7, none⟩ (.string ⟨#[]⟩)) := by
  have hne : ¬ b5 = b6 := ne
  have hne' : ¬ b6 = b5 := fun e => ne e.symm
  have ha : Also (fun b => b ≠ b5 ∧ b ≠ b6) W ((((((((((((((W.setCell ⟨b5, 0, none⟩ a0).setCell ⟨b5, 1, none⟩ a1).setCell ⟨b5, 2, none⟩ a2).setCell ⟨b5, 3, none⟩ a3).setCell ⟨b5, 4, none⟩ a4).setCell ⟨b5, 5, none⟩ (.string p)).setCell ⟨b6, 0, none⟩ d0).setCell ⟨b6, 1, none⟩ d1).setCell ⟨b6, 2, none⟩ d2).setCell ⟨b6, 3, none⟩ d3).setCell ⟨b6, 4, none⟩ d4).setCell ⟨b6, 5, none⟩ (.string p)).setCell ⟨b6, 6, none⟩ (.int .i64 0)).setCell ⟨b6, 7, none⟩ (.string ⟨#[]⟩)) := by
    have e5 : ¬ (b5 ≠ b5 ∧ b5 ≠ b6) := fun e => e.1 rfl
    have e6 : ¬ (b6 ≠ b5 ∧ b6 ≠ b6) := fun e => e.2 rfl
    exact (Also.setCell (p := ⟨b6, 7, none⟩) (Also.setCell (p := ⟨b6, 6, none⟩) (Also.setCell (p := ⟨b6, 5, none⟩) (Also.setCell (p := ⟨b6, 4, none⟩) (Also.setCell (p := ⟨b6, 3, none⟩) (Also.setCell (p := ⟨b6, 2, none⟩) (Also.setCell (p := ⟨b6, 1, none⟩) (Also.setCell (p := ⟨b6, 0, none⟩) (Also.setCell (p := ⟨b5, 5, none⟩) (Also.setCell (p := ⟨b5, 4, none⟩) (Also.setCell (p := ⟨b5, 3, none⟩) (Also.setCell (p := ⟨b5, 2, none⟩) (Also.setCell (p := ⟨b5, 1, none⟩) (Also.setCell (p := ⟨b5, 0, none⟩) (Also.refl _ W) e5 _) e5 _) e5 _) e5 _) e5 _) e5 _) e6 _) e6 _) e6 _) e6 _) e6 _) e6 _) e6 _) e6 _)
  refine ⟨?_, l5, l6, ne, _, _, S, S', hS, hS', ?_, r.also ha fun b hb _ => ⟨hS b hb, hb⟩, ?_, r'.also ha fun b hb _ => ⟨hS' b hb, hb⟩⟩
  · have e5 : lo ≤ b5 := l5
    have e6 : lo ≤ b6 := l6
    exact (Below.setCell (p := ⟨b6, 7, none⟩) (Below.setCell (p := ⟨b6, 6, none⟩) (Below.setCell (p := ⟨b6, 5, none⟩) (Below.setCell (p := ⟨b6, 4, none⟩) (Below.setCell (p := ⟨b6, 3, none⟩) (Below.setCell (p := ⟨b6, 2, none⟩) (Below.setCell (p := ⟨b6, 1, none⟩) (Below.setCell (p := ⟨b6, 0, none⟩) (Below.setCell (p := ⟨b5, 5, none⟩) (Below.setCell (p := ⟨b5, 4, none⟩) (Below.setCell (p := ⟨b5, 3, none⟩) (Below.setCell (p := ⟨b5, 2, none⟩) (Below.setCell (p := ⟨b5, 1, none⟩) (Below.setCell (p := ⟨b5, 0, none⟩) (Below.refl _ W) e5 _) e5 _) e5 _) e5 _) e5 _) e5 _) e6 _) e6 _) e6 _) e6 _) e6 _) e6 _) e6 _) e6 _)
  · have k := (blk_set (blk_set (blk_set (blk_set (blk_set (blk_set h5 0 a0) 1 a1) 2 a2) 3 a3) 4 a4) 5 (.string p))
    exact ((Below.heap_setCell _ ⟨b6, 7, none⟩ _ _ hne).trans ((Below.heap_setCell _ ⟨b6, 6, none⟩ _ _ hne).trans ((Below.heap_setCell _ ⟨b6, 5, none⟩ _ _ hne).trans ((Below.heap_setCell _ ⟨b6, 4, none⟩ _ _ hne).trans ((Below.heap_setCell _ ⟨b6, 3, none⟩ _ _ hne).trans ((Below.heap_setCell _ ⟨b6, 2, none⟩ _ _ hne).trans ((Below.heap_setCell _ ⟨b6, 1, none⟩ _ _ hne).trans ((Below.heap_setCell _ ⟨b6, 0, none⟩ _ _ hne).trans k))))))))
  · have k := ((Below.heap_setCell _ ⟨b5, 5, none⟩ (.string p) _ hne').trans ((Below.heap_setCell _ ⟨b5, 4, none⟩ a4 _ hne').trans ((Below.heap_setCell _ ⟨b5, 3, none⟩ a3 _ hne').trans ((Below.heap_setCell _ ⟨b5, 2, none⟩ a2 _ hne').trans ((Below.heap_setCell _ ⟨b5, 1, none⟩ a1 _ hne').trans ((Below.heap_setCell _ ⟨b5, 0, none⟩ a0 _ hne').trans h6))))))
    have k2 := (blk_set (blk_set (blk_set (blk_set (blk_set (blk_set (blk_set (blk_set k 0 d0) 1 d1) 2 d2) 3 d3) 4 d4) 5 (.string p)) 6 (.int .i64 0)) 7 (.string ⟨#[]⟩))
    refine k2.trans ?_
    simp

theorem Looks.drew {lo b5 b6 : Nat} {v : V} {p : ByteArray} {W : World} (h : Looks lo b5 b6 v p W) : Looks lo b5 b6 v p W.drew := by
  obtain ⟨h1, h2, h3, cs, cs', S, S', h4, h5, h6, h7, h8, h9⟩ := h
  exact ⟨h1, h2, h3, cs, cs', S, S', h4, h5, h6, V.Rep.agree (w := W) (w' := W.drew) (S := S) (S' := S) (fun b hb _ => ⟨rfl, hb⟩) _ h7, h8, V.Rep.agree (w := W) (w' := W.drew) (S := S') (S' := S') (fun b hb _ => ⟨rfl, hb⟩) _ h9⟩

theorem vcells {W : World} {g : Nat} {c0 c1 c2 c3 c4 : Value} (h : W.heap[g]? = some (.cells #[c0, c1, c2, c3, c4] 27 (0, 0))) :
    W.cell? ⟨g, 0, none⟩ = some c0 ∧ W.cell? ⟨g, 1, none⟩ = some c1 ∧ W.cell? ⟨g, 2, none⟩ = some c2 ∧ W.cell? ⟨g, 3, none⟩ = some c3 ∧ W.cell? ⟨g, 4, none⟩ = some c4 :=
  ⟨cell_of_row W g 0 _ 27 (0, 0) h, cell_of_row W g 1 _ 27 (0, 0) h, cell_of_row W g 2 _ 27 (0, 0) h, cell_of_row W g 3 _ 27 (0, 0) h, cell_of_row W g 4 _ 27 (0, 0) h⟩

set_option maxHeartbeats 16000000 in
theorem looks_any (v : V) (cs : List Value) (T : Option Addr) (av : List AV) (ct : Nat) (w : World) (S : Nat → Prop) (hg : Glob w) (hv : v.Rep w S cs) (hb : v.mass ≤ 1048576) (has : Acts w T av) (hal : av.length ≤ 1048576) (hat : ∀ a ∈ av, a.ts.length ≤ 1048576 ∧ a.name.size ≤ 1048576) :
    Calls Tryz.prog 4 #[.agg cs.toArray, .slice T av.length ct] w fun e w' => e = .returned (.bool true) ∧ Below w.heap.size w w' := by
  have HG := Lib.hid hg
  have HV := Lib.hid hv
  have HAS := Lib.hid has
  have HAT := Lib.hid hat
  have hbk : v.bulk ≤ 4194304 := by have := v.bulk_le; omega
  obtain ⟨A, ca, B, cb, rfl, -⟩ := hv.open
  clear hg hv has hat
  go_enter Tryz.func4, Tryz.ntmps4
  go_wp2_with fail
  refine (alive_any _ (by exact HG.out.below ((Below.refl _ _).alloc (Nat.le_refl _) _))).mono ?_
  rintro e w1 ⟨rfl, hb1⟩
  have hz1 : w.heap.size < w1.heap.size := by have := hb1.size; simp at this; omega
  have hx0 : w1.heap[w.heap.size]? = some (.cells #[.int .i64 v.kind, .bool v.tr, .string v.text, .slice A v.list.length ca, .slice B v.names.length cb] 27 (0, 0)) := (hb1.block _ (by simp)).trans (alloc_at rfl)
  have hx := fun o => cell_of_row w1 _ o _ 27 (0, 0) hx0
  have HB1 := Lib.hid (Below.trans ((Below.refl w.heap.size w).alloc (Nat.le_refl _) _) (hb1.mono (by simp)))
  have HX0 := Lib.hid hx0
  clear hb1 hx0
  go_wp2_with fail
  refine (large_any v _ _ S hbk (HV.out.agree fun b hb hlt => ⟨HB1.out.block b hlt, hb⟩)).mono ?_
  rintro e w2 ⟨b, rfl, hb2⟩
  have hz2 : w.heap.size < w2.heap.size := Nat.lt_of_lt_of_le hz1 hb2.size
  have hx0 : w2.heap[w.heap.size]? = some (.cells #[.int .i64 v.kind, .bool v.tr, .string v.text, .slice A v.list.length ca, .slice B v.names.length cb] 27 (0, 0)) := (hb2.block _ hz1).trans HX0.out
  have hy := fun o => cell_of_row w2 _ o _ 27 (0, 0) hx0
  have HB2 := Lib.hid (Below.trans HB1.out (hb2.mono (Nat.le_of_lt hz1)))
  have HX2 := Lib.hid hx0
  clear hb2 hx0 hx HX0
  cases b
  case true =>
    go_wp2
    go_ret
    exact ⟨rfl, HB2.out⟩
  by_cases h20 : av.length ≤ 20
  case neg =>
    have h20' : (20 : Int) < (av.length : Int) := by omega
    go_wp2
    go_ret
    exact ⟨rfl, HB2.out⟩
  have h20' : ¬ (20 : Int) < (av.length : Int) := by omega
  have hal0 : (0 : Int) ≤ (av.length : Int) := Int.natCast_nonneg _
  go_upto_region 5 with fail
  go_cut [5, 6] from 22 to 26 (fun u5 u6 wx => ∃ b5 b6, u5 = .pointer (some ⟨b5, 0, none⟩) ∧ u6 = .pointer (some ⟨b6, 0, none⟩) ∧ Below w.heap.size w wx ∧ Looks w.heap.size b5 b6 v ⟨#[]⟩ wx)
  case first =>
    refine wp_region_held_drew (S := fun W => W.heap[w.heap.size]? = some (.cells [.int .i64 v.kind, .bool v.tr, .string v.text, .slice A v.list.length ca, .slice B v.names.length cb].toArray 27 (0, 0))) (by kernel_rfl) HX2.out (fun hH => ?_)
    have hM0 : Mid w v [.int .i64 v.kind, .bool v.tr, .string v.text, .slice A v.list.length ca, .slice B v.names.length cb] none none none none w2.drew := ⟨HB2.out.drew, hz2, HX2.out, nofun, nofun, nofun, nofun, nofun⟩
    clear hy
    refine wpAnyH_take (i := 0) rfl (v := .agg [.int .i64 v.kind, .bool v.tr, .string v.text, .slice A v.list.length ca, .slice B v.names.length cb].toArray) (by kernel_rfl) (by kernel_rfl) (by kernel_rfl) (fun _ _ _ h => h) (Or.inl ⟨by rfl, fun w' hSw => by obtain ⟨s0, s1, s2, s3, s4⟩ := vcells hSw; go_simp⟩) hH ?_
    try simp only [Act.put, List.setIfInBounds_toArray, List.set_cons_zero, List.set_cons_succ]
    refine wpAnyH_take (i := 2) rfl (v := .agg [.int .i64 v.kind, .bool v.tr, .string v.text, .slice A v.list.length ca, .slice B v.names.length cb].toArray) (by kernel_rfl) (by kernel_rfl) (by kernel_rfl) (fun _ _ _ h => h) (Or.inl ⟨by rfl, fun w' hSw => by obtain ⟨s0, s1, s2, s3, s4⟩ := vcells hSw; go_simp⟩) hH ?_
    try simp only [Act.put, List.setIfInBounds_toArray, List.set_cons_zero, List.set_cons_succ]
    generalize w2.drew = W0 at hM0 ⊢
    refine wpAnyH_ready (rs := [1, 5, 6]) (by kernel_rfl) (by simp) ?_
    refine (AllReadyH.cons (o := _) rfl (fun K hK => ?_) (AllReadyH.cons (o := _) rfl (fun K hK => ?_) (AllReadyH.cons (o := _) rfl (fun K hK => ?_) AllReadyH.nil)))
    · go_simp
      go_at_call 12
      refine (hM0.of HV.out hbk).mono ?_
      rintro e W1 ⟨cs3, rfl, hM1, S3, hr3⟩
      obtain ⟨A3, ca3, B3, cb3, rfl, -⟩ := hr3.open
      clear hr3 S3
      refine hK.out _ _ hM1.2.2.1 (fun hH => ?_)
      clear hK K hM0
      try simp only [Act.put, List.setIfInBounds_toArray, List.set_cons_zero, List.set_cons_succ]
      refine wpAnyH_ready (rs := [3, 5, 6]) (by kernel_rfl) (by simp) ?_
      refine (AllReadyH.cons (o := _) rfl (fun K hK => ?_) (AllReadyH.cons (o := _) rfl (fun K hK => ?_) (AllReadyH.cons (o := _) rfl (fun K hK => ?_) AllReadyH.nil)))
      · go_simp
        go_at_call 17
        refine (hM1.doc HV.out hbk).mono ?_
        rintro e W2 ⟨cs4, rfl, hM2, S4, hr4⟩
        obtain ⟨A4, ca4, B4, cb4, rfl, -⟩ := hr4.open
        clear hr4 S4
        refine hK.out _ _ hM2.2.2.1 (fun hH => ?_)
        clear hK K hM1
        try simp only [Act.put, List.setIfInBounds_toArray, List.set_cons_zero, List.set_cons_succ]
        refine wpAnyH_take (i := 4) rfl (v := .agg #[.int .i64 v.kind, .bool v.tr, .string v.text, .slice A4 v.list.length ca4, .slice B4 v.names.length cb4, .string ⟨#[]⟩, .int .i64 0, .string ⟨#[]⟩]) (by kernel_rfl) (by kernel_rfl) (by kernel_rfl) (fun _ _ _ h => h) (Or.inl ⟨by rfl, fun _ _ => by go_simp⟩) hH ?_
        try simp only [Act.put, List.setIfInBounds_toArray, List.set_cons_zero, List.set_cons_succ]
        refine wpAnyH_ready (rs := [5, 6]) (by kernel_rfl) (by simp) ?_
        refine (AllReadyH.cons (o := _) rfl (fun K hK => ?_) (AllReadyH.cons (o := _) rfl (fun K hK => ?_) AllReadyH.nil))
        · go_simp
          have hM3 := hM2.lay5
          generalize W2.alloc (.cells Z32 32) = W3 at hM3 ⊢
          refine hK.out _ _ hM3.2.2.1 (fun hH => ?_)
          clear hK K hM2
          try simp only [Act.put, List.setIfInBounds_toArray, List.set_cons_zero, List.set_cons_succ]
          generalize W2.heap.size = b5 at hM3 ⊢
          refine wpAnyH_ready (rs := [6]) (by kernel_rfl) (by simp) ?_
          refine (AllReadyH.cons (o := _) rfl (fun K hK => ?_) AllReadyH.nil)
          · go_simp
            have hM4 := hM3.lay6
            generalize W3.alloc (.cells Z46 46) = W4 at hM4 ⊢
            refine hK.out _ _ hM4.2.2.1 (fun hH => ?_)
            clear hK K hM3
            try simp only [Act.put, List.setIfInBounds_toArray, List.set_cons_zero, List.set_cons_succ]
            generalize W3.heap.size = b6 at hM4 ⊢
            obtain ⟨x5, f5, x6, f6, hne, hne'⟩ := hM4.boxes
            have hne5 := hM4.2.2.2.1 _ rfl
            have hne6 := hM4.2.2.2.2.1 _ rfl
            refine wpAnyH_ready (rs := [7]) (by kernel_rfl) (by simp) ?_
            refine AllReadyH.cons (o := _) rfl (fun K hK => ?_) AllReadyH.nil
            go_simp
            refine hK.out _ _ (by (repeat (first | with_reducible refine (Below.heap_setCell _ _ _ _ (by show w.heap.size ≠ b5; omega)).trans ?_ | exact hM4.2.2.1))) (fun hH7 => ?_)
            clear hK K
            try simp only [Act.put, List.setIfInBounds_toArray, List.set_cons_zero, List.set_cons_succ]
            refine wpAnyH_ready (rs := [8]) (by kernel_rfl) (by simp) ?_
            refine AllReadyH.cons (o := _) rfl (fun K hK => ?_) AllReadyH.nil
            go_simp
            refine hK.out _ _ (by (repeat (first | with_reducible exact hH7 | with_reducible refine (Below.heap_setCell _ _ _ _ (by show w.heap.size ≠ b6; omega)).trans ?_))) (fun hH8 => ?_)
            clear hK K
            refine wpAnyH_done (by kernel_rfl) ?_ _
            refine to_met (by assumption) (by assumption) ?_
            exact ⟨_, _, _, _, _, _, _, ⟨b5, b6, rfl, rfl, hM4.done⟩, rfl⟩
        · go_simp
          have hM3 := hM2.lay6
          generalize W2.alloc (.cells Z46 46) = W3 at hM3 ⊢
          refine hK.out _ _ hM3.2.2.1 (fun hH => ?_)
          clear hK K hM2
          try simp only [Act.put, List.setIfInBounds_toArray, List.set_cons_zero, List.set_cons_succ]
          generalize W2.heap.size = b6 at hM3 ⊢
          refine wpAnyH_ready (rs := [5]) (by kernel_rfl) (by simp) ?_
          refine (AllReadyH.cons (o := _) rfl (fun K hK => ?_) AllReadyH.nil)
          · go_simp
            have hM4 := hM3.lay5
            generalize W3.alloc (.cells Z32 32) = W4 at hM4 ⊢
            refine hK.out _ _ hM4.2.2.1 (fun hH => ?_)
            clear hK K hM3
            try simp only [Act.put, List.setIfInBounds_toArray, List.set_cons_zero, List.set_cons_succ]
            generalize W3.heap.size = b5 at hM4 ⊢
            obtain ⟨x5, f5, x6, f6, hne, hne'⟩ := hM4.boxes
            have hne5 := hM4.2.2.2.1 _ rfl
            have hne6 := hM4.2.2.2.2.1 _ rfl
            refine wpAnyH_ready (rs := [7]) (by kernel_rfl) (by simp) ?_
            refine AllReadyH.cons (o := _) rfl (fun K hK => ?_) AllReadyH.nil
            go_simp
            refine hK.out _ _ (by (repeat (first | with_reducible refine (Below.heap_setCell _ _ _ _ (by show w.heap.size ≠ b5; omega)).trans ?_ | exact hM4.2.2.1))) (fun hH7 => ?_)
            clear hK K
            try simp only [Act.put, List.setIfInBounds_toArray, List.set_cons_zero, List.set_cons_succ]
            refine wpAnyH_ready (rs := [8]) (by kernel_rfl) (by simp) ?_
            refine AllReadyH.cons (o := _) rfl (fun K hK => ?_) AllReadyH.nil
            go_simp
            refine hK.out _ _ (by (repeat (first | with_reducible exact hH7 | with_reducible refine (Below.heap_setCell _ _ _ _ (by show w.heap.size ≠ b6; omega)).trans ?_))) (fun hH8 => ?_)
            clear hK K
            refine wpAnyH_done (by kernel_rfl) ?_ _
            refine to_met (by assumption) (by assumption) ?_
            exact ⟨_, _, _, _, _, _, _, ⟨b5, b6, rfl, rfl, hM4.done⟩, rfl⟩
      · go_simp
        have hM2 := hM1.lay5
        generalize W1.alloc (.cells Z32 32) = W2 at hM2 ⊢
        refine hK.out _ _ hM2.2.2.1 (fun hH => ?_)
        clear hK K hM1
        try simp only [Act.put, List.setIfInBounds_toArray, List.set_cons_zero, List.set_cons_succ]
        generalize W1.heap.size = b5 at hM2 ⊢
        refine wpAnyH_ready (rs := [3, 6]) (by kernel_rfl) (by simp) ?_
        refine (AllReadyH.cons (o := _) rfl (fun K hK => ?_) (AllReadyH.cons (o := _) rfl (fun K hK => ?_) AllReadyH.nil))
        · go_simp
          go_at_call 17
          refine (hM2.doc HV.out hbk).mono ?_
          rintro e W3 ⟨cs4, rfl, hM3, S4, hr4⟩
          obtain ⟨A4, ca4, B4, cb4, rfl, -⟩ := hr4.open
          clear hr4 S4
          refine hK.out _ _ hM3.2.2.1 (fun hH => ?_)
          clear hK K hM2
          try simp only [Act.put, List.setIfInBounds_toArray, List.set_cons_zero, List.set_cons_succ]
          refine wpAnyH_take (i := 4) rfl (v := .agg #[.int .i64 v.kind, .bool v.tr, .string v.text, .slice A4 v.list.length ca4, .slice B4 v.names.length cb4, .string ⟨#[]⟩, .int .i64 0, .string ⟨#[]⟩]) (by kernel_rfl) (by kernel_rfl) (by kernel_rfl) (fun _ _ _ h => h) (Or.inl ⟨by rfl, fun _ _ => by go_simp⟩) hH ?_
          try simp only [Act.put, List.setIfInBounds_toArray, List.set_cons_zero, List.set_cons_succ]
          refine wpAnyH_ready (rs := [6]) (by kernel_rfl) (by simp) ?_
          refine (AllReadyH.cons (o := _) rfl (fun K hK => ?_) AllReadyH.nil)
          · go_simp
            have hM4 := hM3.lay6
            generalize W3.alloc (.cells Z46 46) = W4 at hM4 ⊢
            refine hK.out _ _ hM4.2.2.1 (fun hH => ?_)
            clear hK K hM3
            try simp only [Act.put, List.setIfInBounds_toArray, List.set_cons_zero, List.set_cons_succ]
            generalize W3.heap.size = b6 at hM4 ⊢
            obtain ⟨x5, f5, x6, f6, hne, hne'⟩ := hM4.boxes
            have hne5 := hM4.2.2.2.1 _ rfl
            have hne6 := hM4.2.2.2.2.1 _ rfl
            refine wpAnyH_ready (rs := [7]) (by kernel_rfl) (by simp) ?_
            refine AllReadyH.cons (o := _) rfl (fun K hK => ?_) AllReadyH.nil
            go_simp
            refine hK.out _ _ (by (repeat (first | with_reducible refine (Below.heap_setCell _ _ _ _ (by show w.heap.size ≠ b5; omega)).trans ?_ | exact hM4.2.2.1))) (fun hH7 => ?_)
            clear hK K
            try simp only [Act.put, List.setIfInBounds_toArray, List.set_cons_zero, List.set_cons_succ]
            refine wpAnyH_ready (rs := [8]) (by kernel_rfl) (by simp) ?_
            refine AllReadyH.cons (o := _) rfl (fun K hK => ?_) AllReadyH.nil
            go_simp
            refine hK.out _ _ (by (repeat (first | with_reducible exact hH7 | with_reducible refine (Below.heap_setCell _ _ _ _ (by show w.heap.size ≠ b6; omega)).trans ?_))) (fun hH8 => ?_)
            clear hK K
            refine wpAnyH_done (by kernel_rfl) ?_ _
            refine to_met (by assumption) (by assumption) ?_
            exact ⟨_, _, _, _, _, _, _, ⟨b5, b6, rfl, rfl, hM4.done⟩, rfl⟩
        · go_simp
          have hM3 := hM2.lay6
          generalize W2.alloc (.cells Z46 46) = W3 at hM3 ⊢
          refine hK.out _ _ hM3.2.2.1 (fun hH => ?_)
          clear hK K hM2
          try simp only [Act.put, List.setIfInBounds_toArray, List.set_cons_zero, List.set_cons_succ]
          generalize W2.heap.size = b6 at hM3 ⊢
          refine wpAnyH_ready (rs := [3]) (by kernel_rfl) (by simp) ?_
          refine (AllReadyH.cons (o := _) rfl (fun K hK => ?_) AllReadyH.nil)
          · go_simp
            go_at_call 17
            refine (hM3.doc HV.out hbk).mono ?_
            rintro e W4 ⟨cs4, rfl, hM4, S4, hr4⟩
            obtain ⟨A4, ca4, B4, cb4, rfl, -⟩ := hr4.open
            clear hr4 S4
            refine hK.out _ _ hM4.2.2.1 (fun hH => ?_)
            clear hK K hM3
            try simp only [Act.put, List.setIfInBounds_toArray, List.set_cons_zero, List.set_cons_succ]
            refine wpAnyH_take (i := 4) rfl (v := .agg #[.int .i64 v.kind, .bool v.tr, .string v.text, .slice A4 v.list.length ca4, .slice B4 v.names.length cb4, .string ⟨#[]⟩, .int .i64 0, .string ⟨#[]⟩]) (by kernel_rfl) (by kernel_rfl) (by kernel_rfl) (fun _ _ _ h => h) (Or.inl ⟨by rfl, fun _ _ => by go_simp⟩) hH ?_
            try simp only [Act.put, List.setIfInBounds_toArray, List.set_cons_zero, List.set_cons_succ]
            obtain ⟨x5, f5, x6, f6, hne, hne'⟩ := hM4.boxes
            have hne5 := hM4.2.2.2.1 _ rfl
            have hne6 := hM4.2.2.2.2.1 _ rfl
            refine wpAnyH_ready (rs := [7]) (by kernel_rfl) (by simp) ?_
            refine AllReadyH.cons (o := _) rfl (fun K hK => ?_) AllReadyH.nil
            go_simp
            refine hK.out _ _ (by (repeat (first | with_reducible refine (Below.heap_setCell _ _ _ _ (by show w.heap.size ≠ b5; omega)).trans ?_ | exact hM4.2.2.1))) (fun hH7 => ?_)
            clear hK K
            try simp only [Act.put, List.setIfInBounds_toArray, List.set_cons_zero, List.set_cons_succ]
            refine wpAnyH_ready (rs := [8]) (by kernel_rfl) (by simp) ?_
            refine AllReadyH.cons (o := _) rfl (fun K hK => ?_) AllReadyH.nil
            go_simp
            refine hK.out _ _ (by (repeat (first | with_reducible exact hH7 | with_reducible refine (Below.heap_setCell _ _ _ _ (by show w.heap.size ≠ b6; omega)).trans ?_))) (fun hH8 => ?_)
            clear hK K
            refine wpAnyH_done (by kernel_rfl) ?_ _
            refine to_met (by assumption) (by assumption) ?_
            exact ⟨_, _, _, _, _, _, _, ⟨b5, b6, rfl, rfl, hM4.done⟩, rfl⟩
      · go_simp
        have hM2 := hM1.lay6
        generalize W1.alloc (.cells Z46 46) = W2 at hM2 ⊢
        refine hK.out _ _ hM2.2.2.1 (fun hH => ?_)
        clear hK K hM1
        try simp only [Act.put, List.setIfInBounds_toArray, List.set_cons_zero, List.set_cons_succ]
        generalize W1.heap.size = b6 at hM2 ⊢
        refine wpAnyH_ready (rs := [3, 5]) (by kernel_rfl) (by simp) ?_
        refine (AllReadyH.cons (o := _) rfl (fun K hK => ?_) (AllReadyH.cons (o := _) rfl (fun K hK => ?_) AllReadyH.nil))
        · go_simp
          go_at_call 17
          refine (hM2.doc HV.out hbk).mono ?_
          rintro e W3 ⟨cs4, rfl, hM3, S4, hr4⟩
          obtain ⟨A4, ca4, B4, cb4, rfl, -⟩ := hr4.open
          clear hr4 S4
          refine hK.out _ _ hM3.2.2.1 (fun hH => ?_)
          clear hK K hM2
          try simp only [Act.put, List.setIfInBounds_toArray, List.set_cons_zero, List.set_cons_succ]
          refine wpAnyH_take (i := 4) rfl (v := .agg #[.int .i64 v.kind, .bool v.tr, .string v.text, .slice A4 v.list.length ca4, .slice B4 v.names.length cb4, .string ⟨#[]⟩, .int .i64 0, .string ⟨#[]⟩]) (by kernel_rfl) (by kernel_rfl) (by kernel_rfl) (fun _ _ _ h => h) (Or.inl ⟨by rfl, fun _ _ => by go_simp⟩) hH ?_
          try simp only [Act.put, List.setIfInBounds_toArray, List.set_cons_zero, List.set_cons_succ]
          refine wpAnyH_ready (rs := [5]) (by kernel_rfl) (by simp) ?_
          refine (AllReadyH.cons (o := _) rfl (fun K hK => ?_) AllReadyH.nil)
          · go_simp
            have hM4 := hM3.lay5
            generalize W3.alloc (.cells Z32 32) = W4 at hM4 ⊢
            refine hK.out _ _ hM4.2.2.1 (fun hH => ?_)
            clear hK K hM3
            try simp only [Act.put, List.setIfInBounds_toArray, List.set_cons_zero, List.set_cons_succ]
            generalize W3.heap.size = b5 at hM4 ⊢
            obtain ⟨x5, f5, x6, f6, hne, hne'⟩ := hM4.boxes
            have hne5 := hM4.2.2.2.1 _ rfl
            have hne6 := hM4.2.2.2.2.1 _ rfl
            refine wpAnyH_ready (rs := [7]) (by kernel_rfl) (by simp) ?_
            refine AllReadyH.cons (o := _) rfl (fun K hK => ?_) AllReadyH.nil
            go_simp
            refine hK.out _ _ (by (repeat (first | with_reducible refine (Below.heap_setCell _ _ _ _ (by show w.heap.size ≠ b5; omega)).trans ?_ | exact hM4.2.2.1))) (fun hH7 => ?_)
            clear hK K
            try simp only [Act.put, List.setIfInBounds_toArray, List.set_cons_zero, List.set_cons_succ]
            refine wpAnyH_ready (rs := [8]) (by kernel_rfl) (by simp) ?_
            refine AllReadyH.cons (o := _) rfl (fun K hK => ?_) AllReadyH.nil
            go_simp
            refine hK.out _ _ (by (repeat (first | with_reducible exact hH7 | with_reducible refine (Below.heap_setCell _ _ _ _ (by show w.heap.size ≠ b6; omega)).trans ?_))) (fun hH8 => ?_)
            clear hK K
            refine wpAnyH_done (by kernel_rfl) ?_ _
            refine to_met (by assumption) (by assumption) ?_
            exact ⟨_, _, _, _, _, _, _, ⟨b5, b6, rfl, rfl, hM4.done⟩, rfl⟩
        · go_simp
          have hM3 := hM2.lay5
          generalize W2.alloc (.cells Z32 32) = W3 at hM3 ⊢
          refine hK.out _ _ hM3.2.2.1 (fun hH => ?_)
          clear hK K hM2
          try simp only [Act.put, List.setIfInBounds_toArray, List.set_cons_zero, List.set_cons_succ]
          generalize W2.heap.size = b5 at hM3 ⊢
          refine wpAnyH_ready (rs := [3]) (by kernel_rfl) (by simp) ?_
          refine (AllReadyH.cons (o := _) rfl (fun K hK => ?_) AllReadyH.nil)
          · go_simp
            go_at_call 17
            refine (hM3.doc HV.out hbk).mono ?_
            rintro e W4 ⟨cs4, rfl, hM4, S4, hr4⟩
            obtain ⟨A4, ca4, B4, cb4, rfl, -⟩ := hr4.open
            clear hr4 S4
            refine hK.out _ _ hM4.2.2.1 (fun hH => ?_)
            clear hK K hM3
            try simp only [Act.put, List.setIfInBounds_toArray, List.set_cons_zero, List.set_cons_succ]
            refine wpAnyH_take (i := 4) rfl (v := .agg #[.int .i64 v.kind, .bool v.tr, .string v.text, .slice A4 v.list.length ca4, .slice B4 v.names.length cb4, .string ⟨#[]⟩, .int .i64 0, .string ⟨#[]⟩]) (by kernel_rfl) (by kernel_rfl) (by kernel_rfl) (fun _ _ _ h => h) (Or.inl ⟨by rfl, fun _ _ => by go_simp⟩) hH ?_
            try simp only [Act.put, List.setIfInBounds_toArray, List.set_cons_zero, List.set_cons_succ]
            obtain ⟨x5, f5, x6, f6, hne, hne'⟩ := hM4.boxes
            have hne5 := hM4.2.2.2.1 _ rfl
            have hne6 := hM4.2.2.2.2.1 _ rfl
            refine wpAnyH_ready (rs := [7]) (by kernel_rfl) (by simp) ?_
            refine AllReadyH.cons (o := _) rfl (fun K hK => ?_) AllReadyH.nil
            go_simp
            refine hK.out _ _ (by (repeat (first | with_reducible refine (Below.heap_setCell _ _ _ _ (by show w.heap.size ≠ b5; omega)).trans ?_ | exact hM4.2.2.1))) (fun hH7 => ?_)
            clear hK K
            try simp only [Act.put, List.setIfInBounds_toArray, List.set_cons_zero, List.set_cons_succ]
            refine wpAnyH_ready (rs := [8]) (by kernel_rfl) (by simp) ?_
            refine AllReadyH.cons (o := _) rfl (fun K hK => ?_) AllReadyH.nil
            go_simp
            refine hK.out _ _ (by (repeat (first | with_reducible exact hH7 | with_reducible refine (Below.heap_setCell _ _ _ _ (by show w.heap.size ≠ b6; omega)).trans ?_))) (fun hH8 => ?_)
            clear hK K
            refine wpAnyH_done (by kernel_rfl) ?_ _
            refine to_met (by assumption) (by assumption) ?_
            exact ⟨_, _, _, _, _, _, _, ⟨b5, b6, rfl, rfl, hM4.done⟩, rfl⟩
    · go_simp
      have hM1 := hM0.lay5
      generalize W0.alloc (.cells Z32 32) = W1 at hM1 ⊢
      refine hK.out _ _ hM1.2.2.1 (fun hH => ?_)
      clear hK K hM0
      try simp only [Act.put, List.setIfInBounds_toArray, List.set_cons_zero, List.set_cons_succ]
      generalize W0.heap.size = b5 at hM1 ⊢
      refine wpAnyH_ready (rs := [1, 6]) (by kernel_rfl) (by simp) ?_
      refine (AllReadyH.cons (o := _) rfl (fun K hK => ?_) (AllReadyH.cons (o := _) rfl (fun K hK => ?_) AllReadyH.nil))
      · go_simp
        go_at_call 12
        refine (hM1.of HV.out hbk).mono ?_
        rintro e W2 ⟨cs3, rfl, hM2, S3, hr3⟩
        obtain ⟨A3, ca3, B3, cb3, rfl, -⟩ := hr3.open
        clear hr3 S3
        refine hK.out _ _ hM2.2.2.1 (fun hH => ?_)
        clear hK K hM1
        try simp only [Act.put, List.setIfInBounds_toArray, List.set_cons_zero, List.set_cons_succ]
        refine wpAnyH_ready (rs := [3, 6]) (by kernel_rfl) (by simp) ?_
        refine (AllReadyH.cons (o := _) rfl (fun K hK => ?_) (AllReadyH.cons (o := _) rfl (fun K hK => ?_) AllReadyH.nil))
        · go_simp
          go_at_call 17
          refine (hM2.doc HV.out hbk).mono ?_
          rintro e W3 ⟨cs4, rfl, hM3, S4, hr4⟩
          obtain ⟨A4, ca4, B4, cb4, rfl, -⟩ := hr4.open
          clear hr4 S4
          refine hK.out _ _ hM3.2.2.1 (fun hH => ?_)
          clear hK K hM2
          try simp only [Act.put, List.setIfInBounds_toArray, List.set_cons_zero, List.set_cons_succ]
          refine wpAnyH_take (i := 4) rfl (v := .agg #[.int .i64 v.kind, .bool v.tr, .string v.text, .slice A4 v.list.length ca4, .slice B4 v.names.length cb4, .string ⟨#[]⟩, .int .i64 0, .string ⟨#[]⟩]) (by kernel_rfl) (by kernel_rfl) (by kernel_rfl) (fun _ _ _ h => h) (Or.inl ⟨by rfl, fun _ _ => by go_simp⟩) hH ?_
          try simp only [Act.put, List.setIfInBounds_toArray, List.set_cons_zero, List.set_cons_succ]
          refine wpAnyH_ready (rs := [6]) (by kernel_rfl) (by simp) ?_
          refine (AllReadyH.cons (o := _) rfl (fun K hK => ?_) AllReadyH.nil)
          · go_simp
            have hM4 := hM3.lay6
            generalize W3.alloc (.cells Z46 46) = W4 at hM4 ⊢
            refine hK.out _ _ hM4.2.2.1 (fun hH => ?_)
            clear hK K hM3
            try simp only [Act.put, List.setIfInBounds_toArray, List.set_cons_zero, List.set_cons_succ]
            generalize W3.heap.size = b6 at hM4 ⊢
            obtain ⟨x5, f5, x6, f6, hne, hne'⟩ := hM4.boxes
            have hne5 := hM4.2.2.2.1 _ rfl
            have hne6 := hM4.2.2.2.2.1 _ rfl
            refine wpAnyH_ready (rs := [7]) (by kernel_rfl) (by simp) ?_
            refine AllReadyH.cons (o := _) rfl (fun K hK => ?_) AllReadyH.nil
            go_simp
            refine hK.out _ _ (by (repeat (first | with_reducible refine (Below.heap_setCell _ _ _ _ (by show w.heap.size ≠ b5; omega)).trans ?_ | exact hM4.2.2.1))) (fun hH7 => ?_)
            clear hK K
            try simp only [Act.put, List.setIfInBounds_toArray, List.set_cons_zero, List.set_cons_succ]
            refine wpAnyH_ready (rs := [8]) (by kernel_rfl) (by simp) ?_
            refine AllReadyH.cons (o := _) rfl (fun K hK => ?_) AllReadyH.nil
            go_simp
            refine hK.out _ _ (by (repeat (first | with_reducible exact hH7 | with_reducible refine (Below.heap_setCell _ _ _ _ (by show w.heap.size ≠ b6; omega)).trans ?_))) (fun hH8 => ?_)
            clear hK K
            refine wpAnyH_done (by kernel_rfl) ?_ _
            refine to_met (by assumption) (by assumption) ?_
            exact ⟨_, _, _, _, _, _, _, ⟨b5, b6, rfl, rfl, hM4.done⟩, rfl⟩
        · go_simp
          have hM3 := hM2.lay6
          generalize W2.alloc (.cells Z46 46) = W3 at hM3 ⊢
          refine hK.out _ _ hM3.2.2.1 (fun hH => ?_)
          clear hK K hM2
          try simp only [Act.put, List.setIfInBounds_toArray, List.set_cons_zero, List.set_cons_succ]
          generalize W2.heap.size = b6 at hM3 ⊢
          refine wpAnyH_ready (rs := [3]) (by kernel_rfl) (by simp) ?_
          refine (AllReadyH.cons (o := _) rfl (fun K hK => ?_) AllReadyH.nil)
          · go_simp
            go_at_call 17
            refine (hM3.doc HV.out hbk).mono ?_
            rintro e W4 ⟨cs4, rfl, hM4, S4, hr4⟩
            obtain ⟨A4, ca4, B4, cb4, rfl, -⟩ := hr4.open
            clear hr4 S4
            refine hK.out _ _ hM4.2.2.1 (fun hH => ?_)
            clear hK K hM3
            try simp only [Act.put, List.setIfInBounds_toArray, List.set_cons_zero, List.set_cons_succ]
            refine wpAnyH_take (i := 4) rfl (v := .agg #[.int .i64 v.kind, .bool v.tr, .string v.text, .slice A4 v.list.length ca4, .slice B4 v.names.length cb4, .string ⟨#[]⟩, .int .i64 0, .string ⟨#[]⟩]) (by kernel_rfl) (by kernel_rfl) (by kernel_rfl) (fun _ _ _ h => h) (Or.inl ⟨by rfl, fun _ _ => by go_simp⟩) hH ?_
            try simp only [Act.put, List.setIfInBounds_toArray, List.set_cons_zero, List.set_cons_succ]
            obtain ⟨x5, f5, x6, f6, hne, hne'⟩ := hM4.boxes
            have hne5 := hM4.2.2.2.1 _ rfl
            have hne6 := hM4.2.2.2.2.1 _ rfl
            refine wpAnyH_ready (rs := [7]) (by kernel_rfl) (by simp) ?_
            refine AllReadyH.cons (o := _) rfl (fun K hK => ?_) AllReadyH.nil
            go_simp
            refine hK.out _ _ (by (repeat (first | with_reducible refine (Below.heap_setCell _ _ _ _ (by show w.heap.size ≠ b5; omega)).trans ?_ | exact hM4.2.2.1))) (fun hH7 => ?_)
            clear hK K
            try simp only [Act.put, List.setIfInBounds_toArray, List.set_cons_zero, List.set_cons_succ]
            refine wpAnyH_ready (rs := [8]) (by kernel_rfl) (by simp) ?_
            refine AllReadyH.cons (o := _) rfl (fun K hK => ?_) AllReadyH.nil
            go_simp
            refine hK.out _ _ (by (repeat (first | with_reducible exact hH7 | with_reducible refine (Below.heap_setCell _ _ _ _ (by show w.heap.size ≠ b6; omega)).trans ?_))) (fun hH8 => ?_)
            clear hK K
            refine wpAnyH_done (by kernel_rfl) ?_ _
            refine to_met (by assumption) (by assumption) ?_
            exact ⟨_, _, _, _, _, _, _, ⟨b5, b6, rfl, rfl, hM4.done⟩, rfl⟩
      · go_simp
        have hM2 := hM1.lay6
        generalize W1.alloc (.cells Z46 46) = W2 at hM2 ⊢
        refine hK.out _ _ hM2.2.2.1 (fun hH => ?_)
        clear hK K hM1
        try simp only [Act.put, List.setIfInBounds_toArray, List.set_cons_zero, List.set_cons_succ]
        generalize W1.heap.size = b6 at hM2 ⊢
        refine wpAnyH_ready (rs := [1]) (by kernel_rfl) (by simp) ?_
        refine (AllReadyH.cons (o := _) rfl (fun K hK => ?_) AllReadyH.nil)
        · go_simp
          go_at_call 12
          refine (hM2.of HV.out hbk).mono ?_
          rintro e W3 ⟨cs3, rfl, hM3, S3, hr3⟩
          obtain ⟨A3, ca3, B3, cb3, rfl, -⟩ := hr3.open
          clear hr3 S3
          refine hK.out _ _ hM3.2.2.1 (fun hH => ?_)
          clear hK K hM2
          try simp only [Act.put, List.setIfInBounds_toArray, List.set_cons_zero, List.set_cons_succ]
          refine wpAnyH_ready (rs := [3]) (by kernel_rfl) (by simp) ?_
          refine (AllReadyH.cons (o := _) rfl (fun K hK => ?_) AllReadyH.nil)
          · go_simp
            go_at_call 17
            refine (hM3.doc HV.out hbk).mono ?_
            rintro e W4 ⟨cs4, rfl, hM4, S4, hr4⟩
            obtain ⟨A4, ca4, B4, cb4, rfl, -⟩ := hr4.open
            clear hr4 S4
            refine hK.out _ _ hM4.2.2.1 (fun hH => ?_)
            clear hK K hM3
            try simp only [Act.put, List.setIfInBounds_toArray, List.set_cons_zero, List.set_cons_succ]
            refine wpAnyH_take (i := 4) rfl (v := .agg #[.int .i64 v.kind, .bool v.tr, .string v.text, .slice A4 v.list.length ca4, .slice B4 v.names.length cb4, .string ⟨#[]⟩, .int .i64 0, .string ⟨#[]⟩]) (by kernel_rfl) (by kernel_rfl) (by kernel_rfl) (fun _ _ _ h => h) (Or.inl ⟨by rfl, fun _ _ => by go_simp⟩) hH ?_
            try simp only [Act.put, List.setIfInBounds_toArray, List.set_cons_zero, List.set_cons_succ]
            obtain ⟨x5, f5, x6, f6, hne, hne'⟩ := hM4.boxes
            have hne5 := hM4.2.2.2.1 _ rfl
            have hne6 := hM4.2.2.2.2.1 _ rfl
            refine wpAnyH_ready (rs := [7]) (by kernel_rfl) (by simp) ?_
            refine AllReadyH.cons (o := _) rfl (fun K hK => ?_) AllReadyH.nil
            go_simp
            refine hK.out _ _ (by (repeat (first | with_reducible refine (Below.heap_setCell _ _ _ _ (by show w.heap.size ≠ b5; omega)).trans ?_ | exact hM4.2.2.1))) (fun hH7 => ?_)
            clear hK K
            try simp only [Act.put, List.setIfInBounds_toArray, List.set_cons_zero, List.set_cons_succ]
            refine wpAnyH_ready (rs := [8]) (by kernel_rfl) (by simp) ?_
            refine AllReadyH.cons (o := _) rfl (fun K hK => ?_) AllReadyH.nil
            go_simp
            refine hK.out _ _ (by (repeat (first | with_reducible exact hH7 | with_reducible refine (Below.heap_setCell _ _ _ _ (by show w.heap.size ≠ b6; omega)).trans ?_))) (fun hH8 => ?_)
            clear hK K
            refine wpAnyH_done (by kernel_rfl) ?_ _
            refine to_met (by assumption) (by assumption) ?_
            exact ⟨_, _, _, _, _, _, _, ⟨b5, b6, rfl, rfl, hM4.done⟩, rfl⟩
    · go_simp
      have hM1 := hM0.lay6
      generalize W0.alloc (.cells Z46 46) = W1 at hM1 ⊢
      refine hK.out _ _ hM1.2.2.1 (fun hH => ?_)
      clear hK K hM0
      try simp only [Act.put, List.setIfInBounds_toArray, List.set_cons_zero, List.set_cons_succ]
      generalize W0.heap.size = b6 at hM1 ⊢
      refine wpAnyH_ready (rs := [1, 5]) (by kernel_rfl) (by simp) ?_
      refine (AllReadyH.cons (o := _) rfl (fun K hK => ?_) (AllReadyH.cons (o := _) rfl (fun K hK => ?_) AllReadyH.nil))
      · go_simp
        go_at_call 12
        refine (hM1.of HV.out hbk).mono ?_
        rintro e W2 ⟨cs3, rfl, hM2, S3, hr3⟩
        obtain ⟨A3, ca3, B3, cb3, rfl, -⟩ := hr3.open
        clear hr3 S3
        refine hK.out _ _ hM2.2.2.1 (fun hH => ?_)
        clear hK K hM1
        try simp only [Act.put, List.setIfInBounds_toArray, List.set_cons_zero, List.set_cons_succ]
        refine wpAnyH_ready (rs := [3, 5]) (by kernel_rfl) (by simp) ?_
        refine (AllReadyH.cons (o := _) rfl (fun K hK => ?_) (AllReadyH.cons (o := _) rfl (fun K hK => ?_) AllReadyH.nil))
        · go_simp
          go_at_call 17
          refine (hM2.doc HV.out hbk).mono ?_
          rintro e W3 ⟨cs4, rfl, hM3, S4, hr4⟩
          obtain ⟨A4, ca4, B4, cb4, rfl, -⟩ := hr4.open
          clear hr4 S4
          refine hK.out _ _ hM3.2.2.1 (fun hH => ?_)
          clear hK K hM2
          try simp only [Act.put, List.setIfInBounds_toArray, List.set_cons_zero, List.set_cons_succ]
          refine wpAnyH_take (i := 4) rfl (v := .agg #[.int .i64 v.kind, .bool v.tr, .string v.text, .slice A4 v.list.length ca4, .slice B4 v.names.length cb4, .string ⟨#[]⟩, .int .i64 0, .string ⟨#[]⟩]) (by kernel_rfl) (by kernel_rfl) (by kernel_rfl) (fun _ _ _ h => h) (Or.inl ⟨by rfl, fun _ _ => by go_simp⟩) hH ?_
          try simp only [Act.put, List.setIfInBounds_toArray, List.set_cons_zero, List.set_cons_succ]
          refine wpAnyH_ready (rs := [5]) (by kernel_rfl) (by simp) ?_
          refine (AllReadyH.cons (o := _) rfl (fun K hK => ?_) AllReadyH.nil)
          · go_simp
            have hM4 := hM3.lay5
            generalize W3.alloc (.cells Z32 32) = W4 at hM4 ⊢
            refine hK.out _ _ hM4.2.2.1 (fun hH => ?_)
            clear hK K hM3
            try simp only [Act.put, List.setIfInBounds_toArray, List.set_cons_zero, List.set_cons_succ]
            generalize W3.heap.size = b5 at hM4 ⊢
            obtain ⟨x5, f5, x6, f6, hne, hne'⟩ := hM4.boxes
            have hne5 := hM4.2.2.2.1 _ rfl
            have hne6 := hM4.2.2.2.2.1 _ rfl
            refine wpAnyH_ready (rs := [7]) (by kernel_rfl) (by simp) ?_
            refine AllReadyH.cons (o := _) rfl (fun K hK => ?_) AllReadyH.nil
            go_simp
            refine hK.out _ _ (by (repeat (first | with_reducible refine (Below.heap_setCell _ _ _ _ (by show w.heap.size ≠ b5; omega)).trans ?_ | exact hM4.2.2.1))) (fun hH7 => ?_)
            clear hK K
            try simp only [Act.put, List.setIfInBounds_toArray, List.set_cons_zero, List.set_cons_succ]
            refine wpAnyH_ready (rs := [8]) (by kernel_rfl) (by simp) ?_
            refine AllReadyH.cons (o := _) rfl (fun K hK => ?_) AllReadyH.nil
            go_simp
            refine hK.out _ _ (by (repeat (first | with_reducible exact hH7 | with_reducible refine (Below.heap_setCell _ _ _ _ (by show w.heap.size ≠ b6; omega)).trans ?_))) (fun hH8 => ?_)
            clear hK K
            refine wpAnyH_done (by kernel_rfl) ?_ _
            refine to_met (by assumption) (by assumption) ?_
            exact ⟨_, _, _, _, _, _, _, ⟨b5, b6, rfl, rfl, hM4.done⟩, rfl⟩
        · go_simp
          have hM3 := hM2.lay5
          generalize W2.alloc (.cells Z32 32) = W3 at hM3 ⊢
          refine hK.out _ _ hM3.2.2.1 (fun hH => ?_)
          clear hK K hM2
          try simp only [Act.put, List.setIfInBounds_toArray, List.set_cons_zero, List.set_cons_succ]
          generalize W2.heap.size = b5 at hM3 ⊢
          refine wpAnyH_ready (rs := [3]) (by kernel_rfl) (by simp) ?_
          refine (AllReadyH.cons (o := _) rfl (fun K hK => ?_) AllReadyH.nil)
          · go_simp
            go_at_call 17
            refine (hM3.doc HV.out hbk).mono ?_
            rintro e W4 ⟨cs4, rfl, hM4, S4, hr4⟩
            obtain ⟨A4, ca4, B4, cb4, rfl, -⟩ := hr4.open
            clear hr4 S4
            refine hK.out _ _ hM4.2.2.1 (fun hH => ?_)
            clear hK K hM3
            try simp only [Act.put, List.setIfInBounds_toArray, List.set_cons_zero, List.set_cons_succ]
            refine wpAnyH_take (i := 4) rfl (v := .agg #[.int .i64 v.kind, .bool v.tr, .string v.text, .slice A4 v.list.length ca4, .slice B4 v.names.length cb4, .string ⟨#[]⟩, .int .i64 0, .string ⟨#[]⟩]) (by kernel_rfl) (by kernel_rfl) (by kernel_rfl) (fun _ _ _ h => h) (Or.inl ⟨by rfl, fun _ _ => by go_simp⟩) hH ?_
            try simp only [Act.put, List.setIfInBounds_toArray, List.set_cons_zero, List.set_cons_succ]
            obtain ⟨x5, f5, x6, f6, hne, hne'⟩ := hM4.boxes
            have hne5 := hM4.2.2.2.1 _ rfl
            have hne6 := hM4.2.2.2.2.1 _ rfl
            refine wpAnyH_ready (rs := [7]) (by kernel_rfl) (by simp) ?_
            refine AllReadyH.cons (o := _) rfl (fun K hK => ?_) AllReadyH.nil
            go_simp
            refine hK.out _ _ (by (repeat (first | with_reducible refine (Below.heap_setCell _ _ _ _ (by show w.heap.size ≠ b5; omega)).trans ?_ | exact hM4.2.2.1))) (fun hH7 => ?_)
            clear hK K
            try simp only [Act.put, List.setIfInBounds_toArray, List.set_cons_zero, List.set_cons_succ]
            refine wpAnyH_ready (rs := [8]) (by kernel_rfl) (by simp) ?_
            refine AllReadyH.cons (o := _) rfl (fun K hK => ?_) AllReadyH.nil
            go_simp
            refine hK.out _ _ (by (repeat (first | with_reducible exact hH7 | with_reducible refine (Below.heap_setCell _ _ _ _ (by show w.heap.size ≠ b6; omega)).trans ?_))) (fun hH8 => ?_)
            clear hK K
            refine wpAnyH_done (by kernel_rfl) ?_ _
            refine to_met (by assumption) (by assumption) ?_
            exact ⟨_, _, _, _, _, _, _, ⟨b5, b6, rfl, rfl, hM4.done⟩, rfl⟩
      · go_simp
        have hM2 := hM1.lay5
        generalize W1.alloc (.cells Z32 32) = W2 at hM2 ⊢
        refine hK.out _ _ hM2.2.2.1 (fun hH => ?_)
        clear hK K hM1
        try simp only [Act.put, List.setIfInBounds_toArray, List.set_cons_zero, List.set_cons_succ]
        generalize W1.heap.size = b5 at hM2 ⊢
        refine wpAnyH_ready (rs := [1]) (by kernel_rfl) (by simp) ?_
        refine (AllReadyH.cons (o := _) rfl (fun K hK => ?_) AllReadyH.nil)
        · go_simp
          go_at_call 12
          refine (hM2.of HV.out hbk).mono ?_
          rintro e W3 ⟨cs3, rfl, hM3, S3, hr3⟩
          obtain ⟨A3, ca3, B3, cb3, rfl, -⟩ := hr3.open
          clear hr3 S3
          refine hK.out _ _ hM3.2.2.1 (fun hH => ?_)
          clear hK K hM2
          try simp only [Act.put, List.setIfInBounds_toArray, List.set_cons_zero, List.set_cons_succ]
          refine wpAnyH_ready (rs := [3]) (by kernel_rfl) (by simp) ?_
          refine (AllReadyH.cons (o := _) rfl (fun K hK => ?_) AllReadyH.nil)
          · go_simp
            go_at_call 17
            refine (hM3.doc HV.out hbk).mono ?_
            rintro e W4 ⟨cs4, rfl, hM4, S4, hr4⟩
            obtain ⟨A4, ca4, B4, cb4, rfl, -⟩ := hr4.open
            clear hr4 S4
            refine hK.out _ _ hM4.2.2.1 (fun hH => ?_)
            clear hK K hM3
            try simp only [Act.put, List.setIfInBounds_toArray, List.set_cons_zero, List.set_cons_succ]
            refine wpAnyH_take (i := 4) rfl (v := .agg #[.int .i64 v.kind, .bool v.tr, .string v.text, .slice A4 v.list.length ca4, .slice B4 v.names.length cb4, .string ⟨#[]⟩, .int .i64 0, .string ⟨#[]⟩]) (by kernel_rfl) (by kernel_rfl) (by kernel_rfl) (fun _ _ _ h => h) (Or.inl ⟨by rfl, fun _ _ => by go_simp⟩) hH ?_
            try simp only [Act.put, List.setIfInBounds_toArray, List.set_cons_zero, List.set_cons_succ]
            obtain ⟨x5, f5, x6, f6, hne, hne'⟩ := hM4.boxes
            have hne5 := hM4.2.2.2.1 _ rfl
            have hne6 := hM4.2.2.2.2.1 _ rfl
            refine wpAnyH_ready (rs := [7]) (by kernel_rfl) (by simp) ?_
            refine AllReadyH.cons (o := _) rfl (fun K hK => ?_) AllReadyH.nil
            go_simp
            refine hK.out _ _ (by (repeat (first | with_reducible refine (Below.heap_setCell _ _ _ _ (by show w.heap.size ≠ b5; omega)).trans ?_ | exact hM4.2.2.1))) (fun hH7 => ?_)
            clear hK K
            try simp only [Act.put, List.setIfInBounds_toArray, List.set_cons_zero, List.set_cons_succ]
            refine wpAnyH_ready (rs := [8]) (by kernel_rfl) (by simp) ?_
            refine AllReadyH.cons (o := _) rfl (fun K hK => ?_) AllReadyH.nil
            go_simp
            refine hK.out _ _ (by (repeat (first | with_reducible exact hH7 | with_reducible refine (Below.heap_setCell _ _ _ _ (by show w.heap.size ≠ b6; omega)).trans ?_))) (fun hH8 => ?_)
            clear hK K
            refine wpAnyH_done (by kernel_rfl) ?_ _
            refine to_met (by assumption) (by assumption) ?_
            exact ⟨_, _, _, _, _, _, _, ⟨b5, b6, rfl, rfl, hM4.done⟩, rfl⟩
  case rest =>
    obtain ⟨b5, b6, rfl, rfl, hbw, hlk⟩ := hcut
    have HBW := Lib.hid hbw
    have HLK := Lib.hid hlk
    have hzc : w.heap.size < wc.heap.size := by
      obtain ⟨e1, _, _, _, _, _, _, _, _, e2, _⟩ := hlk
      have := (Array.getElem?_eq_some_iff.1 e2).1
      omega
    clear hbw hlk
    go_wp2_with fail
    go_loopw [29] (fun i wr => ∃ (j : Nat) (u : V) (p : ByteArray), j ≤ av.length ∧ i = .int .i64 j ∧ Below w.heap.size w wr ∧ Looks w.heap.size b5 b6 u p wr ∧ u.mass ≤ 1048576 ∧ p.size ≤ j * 1100000) (fun i _ => av.length - (intOf i).toNat)
    case atStart => exact ⟨0, v, ⟨#[]⟩, Nat.zero_le _, rfl, HBW.out, HLK.out, hb, Nat.zero_le _⟩
    case round =>
      obtain ⟨j, u, p, hj, rfl, hbr, hlk, hum, hps⟩ := hrel
      have HBR := Lib.hid hbr
      have HLK2 := Lib.hid hlk
      have hj0 : (0 : Int) ≤ (j : Int) := Int.natCast_nonneg _
      by_cases hlt : j < av.length
      case neg =>
        have hj2 : ¬ (j : Int) < (av.length : Int) := by omega
        clear hlk hbr
        go_wp2
        go_ret
        exact ⟨rfl, HBR.out⟩
      have hj1 : (j : Int) < (av.length : Int) := by omega
      obtain ⟨bT, oT, rfl, hbT, hacts⟩ := HAS.out.resolve_left (by rintro rfl; simp at hlt)
      obtain ⟨TT, cT, ST, hrow, hTS⟩ := hacts j hlt
      have hr1 : Row wr bT (oT + 5 * j) _ := hrow.agree (hbr.block bT hbT)
      obtain ⟨htl, hnl⟩ := HAT.out _ (List.getElem_mem hlt)
      generalize hact : av[j] = act at hr1 hTS htl hnl
      have HTS := Lib.hid hTS
      have e0 := hr1 0 (by simp)
      have e1 := hr1 1 (by simp)
      have e2 := hr1 2 (by simp)
      have e3 := hr1 3 (by simp)
      have e4 := hr1 4 (by simp)
      simp at e0 e1 e2 e3 e4
      rw [Nat.mul_comm] at e0 e1 e2 e3 e4
      clear hrow hr1 hTS hacts hact
      obtain ⟨hl5, hl6, hne, cs5, cs6, S5, S6, hS5, hS6, hx5, hr5, hx6, hr6⟩ := hlk
      have hb5 : b5 < wr.heap.size := (Array.getElem?_eq_some_iff.1 hx5).1
      have hb6 : b6 < wr.heap.size := (Array.getElem?_eq_some_iff.1 hx6).1
      have HX5 := Lib.hid hx5
      have HX6 := Lib.hid hx6
      have HR5 := Lib.hid hr5
      have HR6 := Lib.hid hr6
      obtain ⟨A5, ca5, B5, cb5, rfl, -⟩ := hr5.open
      obtain ⟨A6, ca6, B6, cb6, rfl, -⟩ := hr6.open
      have y5 := fun o => cell_of_row wr _ o _ 32 (0, 0) hx5
      have y6 := fun o => cell_of_row wr _ o _ 46 (0, 0) hx6
      simp only [List.cons_append, List.nil_append] at y5 y6
      clear hbr hx5 hx6 hr5 hr6
      by_cases hnm : act.name.size ≤ 60
      case neg =>
        have hnm' : (60 : Int) < (act.name.size : Int) := by omega
        go_wp2
        go_ret
        exact ⟨rfl, HBR.out.alloc (by omega) _⟩
      have hnm' : ¬ (60 : Int) < (act.name.size : Int) := by omega
      by_cases htn : act.ts.length ≤ 12
      case neg =>
        have htn' : (12 : Int) < (act.ts.length : Int) := by omega
        go_wp2
        go_ret
        exact ⟨rfl, HBR.out.alloc (by omega) _⟩
      have htn' : ¬ (12 : Int) < (act.ts.length : Int) := by omega
      go_wp2_with fail
      have hps2 : p.size ≤ 22000000 := Nat.le_trans hps (by have : j * 1100000 ≤ 20 * 1100000 := Nat.mul_le_mul_right _ (by omega); omega)
      obtain ⟨v', p', tx, tn, ti, c, wh, hm', hp', hst, hdo⟩ := act_at u (kd := act.kd) (n := act.n) (most := act.most) (name := act.name) (ts := act.ts) (by omega) (show p.size ≤ 100000000 by omega) (by omega) (by omega)
      have HST := Lib.hid hst
      have HDO := Lib.hid hdo
      clear hst hdo
      refine (HST.out _ _ S5 ST TT cT (HR5.out.agree fun b hb hlt => ⟨alloc_before hlt, hb⟩) (HG.out.below (HBR.out.alloc (by omega) _)) (HTS.out.agree fun b hb hlt => ⟨(HBR.out.alloc (Nat.le_of_lt (by omega)) _).block b hlt, hb⟩)).mono ?_
      rintro e w4 ⟨cs9, rfl, hr9, hb9⟩
      have hz9 : wr.heap.size + 1 ≤ w4.heap.size := by have := hb9.size; simp at this; omega
      have hza : wr.heap.size < w4.heap.size := by omega
      have hb5' : b5 < w4.heap.size := by omega
      have hb6' : b6 < w4.heap.size := by omega
      have ya := fun o => cell_of_row w4 wr.heap.size o _ 48 (0, 0) ((hb9.block _ (by simp)).trans (alloc_at rfl))
      have HX5' := Lib.hid ((hb9.block _ (by simp; omega)).trans ((alloc_before hb5).trans HX5.out))
      have HX6' := Lib.hid ((hb9.block _ (by simp; omega)).trans ((alloc_before hb6).trans HX6.out))
      have z6 := fun o => cell_of_row w4 _ o _ 46 (0, 0) HX6'.out
      simp only [List.cons_append, List.nil_append] at z6
      have HB9 := Lib.hid (Below.trans ((Below.refl _ _).alloc (Nat.le_refl _) _) (hb9.mono (show wr.heap.size ≤ _ by simp)))
      have HR9 := Lib.hid hr9
      obtain ⟨A9, ca9, B9, cb9, rfl, -⟩ := hr9.open
      clear hr9 hb9 y5 y6 e0 e1 e2 e3 e4
      go_wp2_with fail
      refine (HDO.out _ _ S6 ST TT cT (HR6.out.agree (S' := S6) fun b hb hlt => ⟨(alloc_before (by simp; omega)).trans ((alloc_before (by omega)).trans ((HB9.out.block b (by omega)).trans rfl)), hb⟩) (HTS.out.agree (S' := ST) fun b hb hlt => ⟨(alloc_before (by have := HBR.out.size; simp; omega)).trans ((alloc_before (by have := HBR.out.size; omega)).trans ((HB9.out.block b (by have := HBR.out.size; omega)).trans (HBR.out.block b hlt))), hb⟩)).mono ?_
      rintro e w5 ⟨cs10, rfl, hr10, hb10⟩
      have hz10 : w4.heap.size + 1 + 1 ≤ w5.heap.size := by have := hb10.size; simp at this; omega
      have hx9 : w5.heap[w4.heap.size]? = some (.cells #[.int .i64 v'.kind, .bool v'.tr, .string v'.text, .slice A9 v'.list.length ca9, .slice B9 v'.names.length cb9, .string p'] 32 (0, 0)) := (hb10.block _ (by simp; omega)).trans ((alloc_before (by simp)).trans (alloc_at rfl))
      have hx10 : w5.heap[w4.heap.size + 1]? = some (.cells #[.string tx, .int .i64 tn, .bool ti, .int .i64 c, .string wh] 50 (0, 0)) := (hb10.block _ (by simp)).trans (alloc_at (by simp))
      have HX9 := Lib.hid hx9
      have HX10 := Lib.hid hx10
      have HX5'' := Lib.hid ((hb10.block b5 (by simp; omega)).trans ((alloc_before (by simp; omega)).trans ((alloc_before hb5').trans HX5'.out)))
      have HX6'' := Lib.hid ((hb10.block b6 (by simp; omega)).trans ((alloc_before (by simp; omega)).trans ((alloc_before hb6').trans HX6'.out)))
      have y9 := fun o => cell_of_row w5 _ o _ 32 (0, 0) hx9
      have y10 := fun o => cell_of_row w5 _ o _ 50 (0, 0) hx10
      have HB10 := Lib.hid (Below.trans (((Below.refl w4.heap.size w4).alloc (Nat.le_refl _) _).alloc (by simp) _) (hb10.mono (show w4.heap.size ≤ _ by simp; omega)))
      have HR10 := Lib.hid hr10
      obtain ⟨A10, ca10, B10, cb10, rfl, -⟩ := hr10.open
      have q9 : w4.heap.size < w5.heap.size := by omega
      have q10 : w4.heap.size + 1 < w5.heap.size := by omega
      have qb5 : b5 < w5.heap.size := by omega
      have qb6 : b6 < w5.heap.size := by omega
      clear hr10 hb10 hx9 hx10 ya z6
      unfold docCells
      simp only [List.cons_append, List.nil_append]
      go_upto_region 13 with fail
      have hbk' : v'.bulk ≤ 4194304 := by have := v'.bulk_le; omega
      obtain ⟨W6, hW6⟩ : ∃ W6, W6 = (w5.alloc (.cells #[.int .i64 v'.kind, .bool v'.tr, .string v'.text, .slice A10 v'.list.length ca10, .slice B10 v'.names.length cb10, .string p', .int .i64 0, .string ⟨#[]⟩] 46)).alloc (.cells #[.string tx, .int .i64 tn, .bool ti, .int .i64 c, .string wh] 50) := ⟨_, rfl⟩
      rw [← hW6]
      have z6 : W6.heap.size = w5.heap.size + 1 + 1 := by rw [hW6]; simp
      have hb6 : Below w5.heap.size w5 W6 := by rw [hW6]; exact ((Below.refl _ _).alloc (Nat.le_refl _) _).alloc (by simp) _
      have G9 := Lib.hid ((hb6.block _ q9).trans HX9.out)
      have G10 := Lib.hid ((hb6.block _ q10).trans HX10.out)
      have G11 := Lib.hid (show W6.heap[w5.heap.size]? = some (.cells #[.int .i64 v'.kind, .bool v'.tr, .string v'.text, .slice A10 v'.list.length ca10, .slice B10 v'.names.length cb10, .string p', .int .i64 0, .string ⟨#[]⟩] 46 (0, 0)) from by rw [hW6, alloc_before (by simp)]; exact alloc_at rfl)
      have G12 := Lib.hid (show W6.heap[w5.heap.size + 1]? = some (.cells #[.string tx, .int .i64 tn, .bool ti, .int .i64 c, .string wh] 50 (0, 0)) from by rw [hW6]; exact alloc_at (by simp))
      have G5 := Lib.hid ((hb6.block _ qb5).trans HX5''.out)
      have G6 := Lib.hid ((hb6.block _ qb6).trans HX6''.out)
      have l9 : w4.heap.size < W6.heap.size := by omega
      have l10 : w4.heap.size + 1 < W6.heap.size := by omega
      have l11 : w5.heap.size < W6.heap.size := by omega
      have l12 : w5.heap.size + 1 < W6.heap.size := by omega
      obtain ⟨S9, hS9⟩ : ∃ S9 : Nat → Prop, S9 = fun b => (S5 b ∧ b < wr.heap.size + 1) ∨ (wr.heap.size + 1 ≤ b ∧ b < w4.heap.size) := ⟨_, rfl⟩
      obtain ⟨S10, hS10⟩ : ∃ S10 : Nat → Prop, S10 = fun b => S6 b ∧ b < w4.heap.size + 1 + 1 := ⟨_, rfl⟩
      have HR9' := Lib.hid (show v'.Rep W6 S9 [.int .i64 v'.kind, .bool v'.tr, .string v'.text, .slice A9 v'.list.length ca9, .slice B9 v'.names.length cb9] from HR9.out.agree fun b hb hlt => ⟨(hb6.block b (by omega)).trans (HB10.out.block b (by omega)), by rw [hS9]; simpa using hb⟩)
      have HR10' := Lib.hid (show v'.Rep W6 S10 [.int .i64 v'.kind, .bool v'.tr, .string v'.text, .slice A10 v'.list.length ca10, .slice B10 v'.names.length cb10] from HR10.out.agree fun b hb hlt => ⟨hb6.block b hlt, by rw [hS10]; simpa using hb⟩)
      have HB6 := Lib.hid hb6
      clear hb6 hW6 y9 y10
      go_region_held3 (fun w' => w'.cell? ⟨w4.heap.size, 0, none⟩ = some (.int .i64 v'.kind) ∧ w'.cell? ⟨w4.heap.size, 1, none⟩ = some (.bool v'.tr) ∧ w'.cell? ⟨w4.heap.size, 2, none⟩ = some (.string v'.text) ∧ w'.cell? ⟨w4.heap.size, 3, none⟩ = some (.slice A9 v'.list.length ca9) ∧ w'.cell? ⟨w4.heap.size, 4, none⟩ = some (.slice B9 v'.names.length cb9) ∧ w'.cell? ⟨w4.heap.size, 5, none⟩ = some (.string p') ∧ w'.cell? ⟨w4.heap.size + 1, 0, none⟩ = some (.string tx) ∧ w'.cell? ⟨w4.heap.size + 1, 1, none⟩ = some (.int .i64 tn) ∧ w'.cell? ⟨w4.heap.size + 1, 2, none⟩ = some (.bool ti) ∧ w'.cell? ⟨w4.heap.size + 1, 3, none⟩ = some (.int .i64 c) ∧ w'.cell? ⟨w4.heap.size + 1, 4, none⟩ = some (.string wh) ∧ w'.cell? ⟨w5.heap.size, 0, none⟩ = some (.int .i64 v'.kind) ∧ w'.cell? ⟨w5.heap.size, 1, none⟩ = some (.bool v'.tr) ∧ w'.cell? ⟨w5.heap.size, 2, none⟩ = some (.string v'.text) ∧ w'.cell? ⟨w5.heap.size, 3, none⟩ = some (.slice A10 v'.list.length ca10) ∧ w'.cell? ⟨w5.heap.size, 4, none⟩ = some (.slice B10 v'.names.length cb10) ∧ w'.cell? ⟨w5.heap.size, 5, none⟩ = some (.string p') ∧ w'.cell? ⟨w5.heap.size + 1, 0, none⟩ = some (.string tx) ∧ w'.cell? ⟨w5.heap.size + 1, 1, none⟩ = some (.int .i64 tn) ∧ w'.cell? ⟨w5.heap.size + 1, 2, none⟩ = some (.bool ti) ∧ w'.cell? ⟨w5.heap.size + 1, 3, none⟩ = some (.int .i64 c) ∧ w'.cell? ⟨w5.heap.size + 1, 4, none⟩ = some (.string wh))
        ((first | exact cells13 G9.out G10.out G11.out G12.out | exact cells13 ((kA _ l9).trans G9.out) ((kA _ l10).trans G10.out) ((kA _ l11).trans G11.out) ((kA _ l12).trans G12.out) | exact cells13 ((kB _ l9).trans G9.out) ((kB _ l10).trans G10.out) ((kB _ l11).trans G11.out) ((kB _ l12).trans G12.out) | exact cells13 ((kC _ l9).trans G9.out) ((kC _ l10).trans G10.out) ((kC _ l11).trans G11.out) ((kC _ l12).trans G12.out) | exact cells13 ((kD _ l9).trans G9.out) ((kD _ l10).trans G10.out) ((kD _ l11).trans G11.out) ((kD _ l12).trans G12.out)))
        ((first | (go_at_call 20; refine (place_look _ _ _ _ _ _ _ _ _ _ _).mono ?_; rintro e wA ⟨rfl, bA⟩; have zA : W6.heap.size ≤ wA.heap.size := bA.size; have bA0 : Below W6.heap.size W6 wA := ⟨bA.os, bA.tape, bA.output, zA, fun b hb => bA.block b hb⟩; have kA : ∀ b, b < W6.heap.size → wA.heap[b]? = W6.heap[b]? := fun b hb => bA.block b hb; clear bA) | (go_at_call 22; refine (value_look v' [.int .i64 v'.kind, .bool v'.tr, .string v'.text, .slice A9 v'.list.length ca9, .slice B9 v'.names.length cb9] _ _ _ (HR9'.out.agree (S' := S9) fun b hb hlt => ⟨kA b hlt, hb⟩) hbk').mono ?_; rintro e wB ⟨csB, rfl, rB, bB⟩; have zB : W6.heap.size ≤ wB.heap.size := Nat.le_trans zA bB.size; have bB0 : Below W6.heap.size W6 wB := ⟨bB.os.trans bA0.os, bB.tape.trans bA0.tape, bB.output.trans bA0.output, zB, fun b hb => (bB.block b (by omega)).trans (kA b hb)⟩; have kB : ∀ b, b < W6.heap.size → wB.heap[b]? = W6.heap[b]? := fun b hb => (bB.block b (by omega)).trans (kA b hb); obtain ⟨AB, caB, BB, cbB, rfl, -⟩ := rB.open; have RB := Lib.hid rB; clear bB rB) | (go_at_call 17; refine (document_any v' _ _ _ hbk' RB.out).mono ?_; rintro e wC ⟨csC, rfl, rC, bC⟩; have zC : W6.heap.size ≤ wC.heap.size := Nat.le_trans zB bC.size; have bC0 : Below W6.heap.size W6 wC := ⟨bC.os.trans bB0.os, bC.tape.trans bB0.tape, bC.output.trans bB0.output, zC, fun b hb => (bC.block b (by omega)).trans (kB b hb)⟩; have kC : ∀ b, b < W6.heap.size → wC.heap[b]? = W6.heap[b]? := fun b hb => (bC.block b (by omega)).trans (kB b hb); obtain ⟨AC, caC, BC, cbC, rfl, -⟩ := rC.open; have RC := Lib.hid rC; clear bC rC) | (go_at_call 21; refine (same_any v' _ [.int .i64 v'.kind, .bool v'.tr, .string v'.text, .slice A10 v'.list.length ca10, .slice B10 v'.names.length cb10] _ _ _ hbk' RC.out (HR10'.out.agree (S' := S10) fun b hb hlt => ⟨kC b hlt, hb⟩)).mono ?_; rintro e wD ⟨rfl, bD⟩; have bD0 : Below W6.heap.size W6 wD := ⟨bD.os.trans bC0.os, bD.tape.trans bC0.tape, bD.output.trans bC0.output, Nat.le_trans zC bD.size, fun b hb => (bD.block b (by omega)).trans (kC b hb)⟩; have zD : W6.heap.size ≤ wD.heap.size := Nat.le_trans zC bD.size; have kD : ∀ b, b < W6.heap.size → wD.heap[b]? = W6.heap[b]? := fun b hb => (bD.block b (by omega)).trans (kC b hb); clear bD)))
      have D5 := (kD b5 (by omega)).trans G5.out
      have D6 := (kD b6 (by omega)).trans G6.out
      have D9 := (kD _ l9).trans G9.out
      have D11 := (kD _ l11).trans G11.out
      have DR9 := Lib.hid (HR9'.out.agree (w' := wD) (S' := S9) fun b hb hlt => ⟨kD b hlt, hb⟩)
      have DR10 := Lib.hid (HR10'.out.agree (w' := wD) (S' := S10) fun b hb hlt => ⟨kD b hlt, hb⟩)
      have hbD : Below w.heap.size w wD := by
        have t1 := HBR.out
        have t2 := HB9.out
        have t3 := HB10.out
        have t4 := HB6.out
        exact (((t1.trans (t2.mono t1.size)).trans (t3.mono (by omega))).trans (t4.mono (by omega))).trans (bD0.mono (by omega))
      have c5 := fun o => cell_of_row wD _ o _ 32 (0, 0) D5
      have c6 := fun o => cell_of_row wD _ o _ 46 (0, 0) D6
      have c9 := fun o => cell_of_row wD _ o _ 32 (0, 0) D9
      have c11 := fun o => cell_of_row wD _ o _ 46 (0, 0) D11
      simp only [List.cons_append, List.nil_append] at c5 c6
      have f5 : ∀ o, wD.frozen? ⟨b5, o, none⟩ = false := fun o => by simp [World.frozen?, D5]
      have f6 : ∀ o, wD.frozen? ⟨b6, o, none⟩ = false := fun o => by simp [World.frozen?, D6]
      have n1 : ¬ b5 = b6 := hne
      have n2 : ¬ b6 = b5 := fun e => hne e.symm
      have HD5 := Lib.hid D5
      have HD6 := Lib.hid D6
      have HBD := Lib.hid hbD
      clear D5 D6 D9 D11 hbD
      go_wp2_with fail
      have m1 : ¬ b5 = w4.heap.size := by omega
      have m2 : ¬ b5 = w5.heap.size := by omega
      have m3 : ¬ b6 = w4.heap.size := by omega
      have m4 : ¬ b6 = w5.heap.size := by omega
      have m5 : ¬ w4.heap.size = b5 := by omega
      have m6 : ¬ w5.heap.size = b5 := by omega
      have m7 : ¬ w4.heap.size = b6 := by omega
      have m8 : ¬ w5.heap.size = b6 := by omega
      have hjp : (j + 1) * 1100000 = j * 1100000 + 1100000 := by omega
      go_region
      all_goals
       go_wp2
       have hz : w.heap.size ≤ wr.heap.size := HBR.out.size
       have X := looks_set (lo := w.heap.size) (p := p') hl5 hl6 hne HD5.out HD6.out DR9.out DR10.out (fun b hb => by rw [hS9] at hb; rcases hb with hb | hb; exact hS5 b hb.1; omega) (fun b hb => by rw [hS10] at hb; exact hS6 b hb.1)
       exact ⟨⟨j + 1, v', p', hlt, by go_num, (HBD.out.trans X.1).drew, X.2.drew, by omega, by omega⟩, by simp [intOf]; omega⟩


end Go.Proofs.YtoimjnmhinfbkaaGreatDoor
