/- A text that grows in memory, beside a buffer: appending bytes to it. -/
import Derived.Test.YtlmogijkkhdogaaGreatDoorGb
import Derived.Laws.AppendOwn
import Derived.Lib.UnsafeStr
namespace Go.Proofs.YtlmogijkkhdogaaGreatDoor
open Go.RowKit
set_option maxRecDepth 100000

theorem info5 : (Tryz.prog.info? 5).map (fun i => (i.zero, i.size, i.bytes)) = some (some (.int .u8 0), 1, 1) := by kernel_rfl

/-- the text k lies behind v, in memory of the call's own; the buffer's block is as it was. -/
structure EF (B bb : Nat) (C : Array Value) (k : List UInt8) (v : Value) (w0 w : World) : Prop where
  own : w.ownsRow B 5 1 v k.length (Lib.byteCells k)
  bel : Below B w0 w
  buf : w.heap[bb]? = some (.cells C 202 (0, 0))
  sz : B ≤ w.heap.size
  far : v.ownBlock ≠ some bb

theorem ef_far {w : World} {B bb n : Nat} {C : Array Value} {v : Value} {xs : List Value} (h : w.ownsRow B 5 1 v n xs) (hb : w.heap[bb]? = some (.cells C 202 (0, 0))) : v.ownBlock ≠ some bb := by
  rcases h.2 with ⟨rfl, _⟩ | ⟨g, cap, cur, rfl, _, hg, _⟩
  · simp [Value.ownBlock]
  · intro e
    simp only [Value.ownBlock, Option.some.injEq] at e
    subst e
    rw [hb] at hg
    injection hg with hg
    injection hg with _ h2 _
    exact absurd h2 (by decide)

theorem EF.alloc {B bb : Nat} {C : Array Value} {k : List UInt8} {v : Value} {w0 w : World} (h : EF B bb C k v w0 w) (o : Obj) : EF B bb C k v w0 (w.alloc o) := by
  have hlt : bb < w.heap.size := by
    rcases Nat.lt_or_ge bb w.heap.size with h1 | h1
    · exact h1
    · have := h.buf; rw [Array.getElem?_eq_none h1] at this; cases this
  exact ⟨h.own.alloc o, h.bel.alloc h.sz o, by rw [← h.buf]; exact Below.heap_alloc w o bb hlt, by simp; have := h.sz; omega, h.far⟩

theorem EF.grown {B bb : Nat} {C : Array Value} {k l : List UInt8} {v v' : Value} {w0 w w' : World} (h : EF B bb C k v w0 w) (ho : w'.ownsRow B 5 1 v' (k.length + l.length) (Lib.byteCells k ++ Lib.byteCells l)) (hg : w.grownBy w' v.ownBlock) : EF B bb C (k ++ l) v' w0 w' := by
  have hlt : bb < w.heap.size := by
    rcases Nat.lt_or_ge bb w.heap.size with h1 | h1
    · exact h1
    · have := h.buf; rw [Array.getElem?_eq_none h1] at this; cases this
  have hb : w'.heap[bb]? = some (.cells C 202 (0, 0)) := (hg.block bb hlt fun e => h.far e.symm).trans h.buf
  refine ⟨?_, h.bel.grown hg h.sz fun k hk => (h.own.lt k hk).1, hb, Nat.le_trans h.sz hg.size, ef_far ho hb⟩
  rw [List.length_append]
  have e : Lib.byteCells (k ++ l) = Lib.byteCells k ++ Lib.byteCells l := by simp [Lib.byteCells]
  rw [e]; exact ho

section
variable {ops : Array Oper} {rest : List Oper} {o : Oper} {a : Act} {Q : Exit → Act → World → Prop}
theorem ef_app {B bb : Nat} {C : Array Value} {k : List UInt8} {v : Value} {w0 w : World} (h : EF B bb C k v w0 w) (hgd : o.guard = none) (s x : Operand)
    (ho : o.op = .call { callee := .builtin .append, args := #[s, x], argTypes := #[54, 54] }) (hs : a.eval s = v) (l : List UInt8) (ad : Addr) (c : Nat) (hx : a.eval x = .slice (some ad) l.length c)
    (hl : ∀ j u, (Lib.byteCells l)[j]? = some u → w.cell? (ad.add j) = some u) (hk : k.length + l.length ≤ 1000)
    (hc : ∀ v' w', EF B bb C (k ++ l) v' w0 w' → wpList Tryz.prog ops Q rest (a.put o.dst v') w') : wpList Tryz.prog ops Q (o :: rest) a w := by
  obtain ⟨i0, hi0, hz0, hzz1, hzz2⟩ := info_parts info5
  refine wpList_append_own w hgd s x 54 ho B 5 i0 (.int .u8 0) 1 1 Tryz.underlying54 hi0 hz0 hzz1 hzz2 rfl (by decide) v k.length _ hs h.own ad l.length c (Lib.byteCells l) hx (by rw [Lib.byteCells_length, Nat.mul_one]) hl ?_ (by unfold maxLen; omega) (by omega) h.sz ?_
  · intro u hu
    simp only [Lib.byteCells, List.mem_map] at hu
    obtain ⟨b, _, rfl⟩ := hu
    rfl
  · intro v' w' h1 h2 _
    exact hc v' w' (h.grown h1 h2)
/-- bytes out of a block that was laid for them. -/
theorem ef_new {B bb : Nat} {C : Array Value} {k : List UInt8} {v : Value} {w0 w : World} (h : EF B bb C k v w0 w) (hgd : o.guard = none) (s x : Operand)
    (ho : o.op = .call { callee := .builtin .append, args := #[s, x], argTypes := #[54, 54] }) (hs : a.eval s = v) (l : List UInt8) (cs : Array Value) (t : TypeId) (hcs : cs.toList = Lib.byteCells l) (c : Nat)
    (hx : a.eval x = .slice (some ⟨w.heap.size, 0, none⟩) l.length c) (hk : k.length + l.length ≤ 1000)
    (hc : ∀ v' w', EF B bb C (k ++ l) v' w0 w' → wpList Tryz.prog ops Q rest (a.put o.dst v') w') : wpList Tryz.prog ops Q (o :: rest) a (w.alloc (.cells cs t)) := by
  refine ef_app (h.alloc _) hgd s x ho hs l ⟨w.heap.size, 0, none⟩ c hx ?_ hk hc
  intro j u hj
  rw [Lib.add_plain, Nat.zero_add, World.cell?_alloc_new, ← Array.getElem?_toList, hcs]
  exact hj
end
end Go.Proofs.YtlmogijkkhdogaaGreatDoor
