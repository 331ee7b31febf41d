/-
 DERIVED: THE SHELF's CONTRACTS AT THIS DUMP, IN PLAIN WORDS (tools/lay-plain.mjs out of 'YtoimjnmhinfbkaaGreatDoorShelf.lean', which tools/lay-shelf.mjs wrote): THE SAME DECLARATIONS UNDER THE SAME NAMES: 'import', 'namespace', 'open', 'def', 'theorem' AND NOTHING ELSE: no command of the shelf's: FOR A HAND-IN. Each laying: the table of numbers ('.._ren') and one theorem, a field a fact of the dump's own or the kernel's comparison; each contract: ONE APPLICATION.
-/
import Derived.Deep.LoopGhost
import Derived.Deep.RegionHeld3
import Derived.Ground.Names2Prog
import Derived.Lib.Hide
import Derived.Recover
import Derived.Shelf.Bits.Mul64
import Derived.Shelf.LaysC
import Derived.Shelf.LaysM
import Derived.Shelf.Slices.Clone
import Derived.Shelf.Slices.Turned
import Derived.Shelf.Small.Strs
import Derived.Shelf.Small.Utf8
import Derived.Shelf.Small.Wraps
import Derived.Shelf.Strconv.Atoi
import Derived.Shelf.Strconv.AtoiAll
import Derived.Shelf.Strconv.AtoiErr
import Derived.Shelf.Strconv.AtoiErrFast
import Derived.Shelf.Strconv.AtoiFail
import Derived.Shelf.Strconv.AtoiInnerAll
import Derived.Shelf.Strconv.AtoiLong
import Derived.Shelf.Strconv.Clone
import Derived.Shelf.Strconv.ErrVar
import Derived.Shelf.Strconv.ErrVarAll
import Derived.Shelf.Strconv.ErrVarParseInt
import Derived.Shelf.Strconv.Itoa0
import Derived.Shelf.Strconv.Itoa1
import Derived.Shelf.Strconv.Itoa2
import Derived.Shelf.Strconv.Itoa3
import Derived.Shelf.Strconv.Lower
import Derived.Shelf.Strconv.ParseInt10
import Derived.Shelf.Strconv.ParseInt10All
import Derived.Shelf.Strconv.ParseInt10At16
import Derived.Shelf.Strconv.ParseInt10At32
import Derived.Shelf.Strconv.ParseInt10At64
import Derived.Shelf.Strconv.ParseInt10At8
import Derived.Shelf.Strconv.ParseIntEmpty
import Derived.Shelf.Strconv.ParseIntPublic10
import Derived.Shelf.Strconv.ParseUint10
import Derived.Shelf.Strconv.ParseUint10Any
import Derived.Shelf.Strconv.ParseUint10At
import Derived.Shelf.Strconv.ParseUint10Empty
import Derived.Shelf.Strconv.ParseUint10b16
import Derived.Shelf.Strconv.ParseUint10b32
import Derived.Shelf.Strconv.ParseUint10b64
import Derived.Shelf.Strconv.ParseUint10b8
import Derived.Shelf.Strconv.ParseUintEmpty
import Derived.Shelf.Strconv.RangeError
import Derived.Shelf.Strconv.SyntaxError
import Derived.Shelf.Strconv.ToError
import Derived.Shelf.Strconv.ToErrorRange
import Derived.Shelf.Strings.AsciiSet
import Derived.Shelf.Strings.Builder1
import Derived.Shelf.Strings.Builder2
import Derived.Shelf.Strings.Builder2Cap
import Derived.Shelf.Strings.BuilderCap
import Derived.Shelf.Strings.BuilderF
import Derived.Shelf.Strings.BuilderK
import Derived.Shelf.Strings.Prefix
import Derived.Shelf.Strings.Repeat
import Derived.Shelf.Strings.Runes
import Derived.Shelf.Strings.Search1
import Derived.Shelf.Strings.Trim
import Derived.Shelf.Unicode.Decode
import Derived.Shelf.Unicode.DecodeAny
import Derived.Shelf.Unicode.DecodeLast
import Derived.Shelf.Unicode.DecodeSlow
import Derived.WalkKit
import Derived.WalkLawsBesides
import Derived.WalkSpells
import Derived.Test.YtoimjnmhinfbkaaGreatDoorProg
namespace Go.Proofs.YtoimjnmhinfbkaaGreatDoor
open Go.RowKit
theorem throw_any (c : Int) (s : ByteArray) (w : World) :
  Calls Tryz.prog 98 #[.int .i64 c, .string s] w fun e w' => e = .panicked [{ v := .iface 106 (.pointer (some ⟨w.heap.size, 0, none⟩)), recovered := false }] ∧ w' = w.alloc (.cells #[.int .i64 c, .string s] 114) := by
 go_enter Tryz.func98, Tryz.ntmps98
 go_wp2
 exact ⟨rfl, rfl, rfl⟩
theorem must_yes (c : Int) (s : ByteArray) (w : World) :
  Calls Tryz.prog 99 #[.bool true, .int .i64 c, .string s] w fun e w' => e = .returned (.tuple #[]) ∧ w' = w := by
 go_enter Tryz.func99, Tryz.ntmps99
 go_wp2
 go_end0
 exact ⟨rfl, rfl⟩
theorem must_no (c : Int) (s : ByteArray) (w : World) :
  Calls Tryz.prog 99 #[.bool false, .int .i64 c, .string s] w fun e w' => e = .panicked [{ v := .iface 106 (.pointer (some ⟨w.heap.size, 0, none⟩)), recovered := false }] ∧ w' = w.alloc (.cells #[.int .i64 c, .string s] 114) := by
 go_enter Tryz.func99, Tryz.ntmps99
 go_wp2_with (go_at_call 98; refine (throw_any _ _ _).mono ?_; rintro e w' ⟨rfl, rfl⟩)
 exact ⟨rfl, rfl, rfl⟩
set_option maxRecDepth 100000 in
theorem catch_panicking (p : Addr) (x : Value) (a : Option Addr) (older : List PanicEntry) (w : World) (hc : w.cell? p = some x) (hz : w.frozen? p = false) :
  CallsD Tryz.prog 49 #[.pointer (some p)] (.panicking ({ v := .iface 106 (.pointer a), recovered := false } :: older)) w fun e u' w' =>
   e = .returned (.tuple #[]) ∧ u' = .panicking ({ v := .iface 106 (.pointer a), recovered := true } :: older) ∧ w' = w.setCell p (.iface 106 (.pointer a)) := by
 refine callsD_of_wpS Tryz.func49 rfl fun c₀ cs hu => ?_
 apply wpS_seq
 apply wpS_region
 simp [wpOpsS, go_sem, recoverD, hu, Tryz.ntmps49, Exit.thenS]
 clear hu
 refine wpS_of_wp ?_
 simp only [Array.replicate_succ, Array.replicate_zero, List.push_toArray, List.nil_append, List.cons_append]
 have hta : ∀ w, (Instr.typeAssert (.iface 106 (.pointer a)) 20 106 true).run Tryz.prog w = .ok (.tuple #[.pointer a, .bool true]) w := fun _ => by kernel_rfl
 go_wp2
 simp [bodyPostS, results, Tryz.results49]
theorem catch_idle (p : Addr) (w : World) :
  CallsD Tryz.prog 49 #[.pointer (some p)] .returning w fun e u' w' => e = .returned (.tuple #[]) ∧ u' = .returning ∧ w' = w := by
 refine callsD_of_wpS Tryz.func49 rfl fun c₀ cs hu => ?_
 apply wpS_seq
 apply wpS_region
 simp [wpOpsS, go_sem, recoverD, hu, Tryz.ntmps49, Exit.thenS]
 have Hu := Lib.hid hu
 clear hu
 refine wpS_of_wp ?_
 simp only [Array.replicate_succ, Array.replicate_zero, List.push_toArray, List.nil_append, List.cons_append]
 go_wp2
 have hu := Hu.out
 clear Hu
 cases c₀
 simp_all [bodyPostS, results, Tryz.results49]
set_option maxRecDepth 100000 in
/-- what a call of a closure that captures does, under 'Try'. -/
theorem try_any {K : FuncId} {cap : Array Value} {w : World} {Q : Ending → World → Prop}
  (hent : ∀ w, (callFunc K cap).run Tryz.prog w = .ok (.enter K cap) w)
  (h : Calls Tryz.prog K cap (w.alloc (.cells #[.nilIface] 29)) fun e w2 =>
   w2.cell? ⟨w.heap.size, 0, none⟩ = some .nilIface ∧ w2.frozen? ⟨w.heap.size, 0, none⟩ = false ∧
   ((e = .returned (.tuple #[]) ∧ Q (.returned .nilIface) (w2.setCell ⟨w.heap.size, 0, none⟩ .nilIface)) ∨
   (∃ a, e = .panicked [{ v := .iface 106 (.pointer a), recovered := false }] ∧ Q (.returned (.iface 106 (.pointer a))) (w2.setCell ⟨w.heap.size, 0, none⟩ (.iface 106 (.pointer a)))))) :
  Calls Tryz.prog 10 #[.func (.func K) #[] cap] w Q := by
 have hmf : ∀ (fn : Fn) (first cap : Array Value) (w : World), (Instr.makeFunc fn first cap).run Tryz.prog w = .ok (.func fn first cap) w := fun _ _ _ _ => rfl
 have hfn : ∀ w, (binOp .eql 1 (.func (.func K) #[] cap) .nilFunc).run Tryz.prog w = .ok (.bool false) w := fun _ => by kernel_rfl
 have H := Lib.hid h
 clear h
 go_enter_defers Tryz.func10, Tryz.ntmps10
 go_wp2_with fail
 refine H.out.mono ?_
 rintro e w2 ⟨h1, h2, ⟨rfl, h3⟩ | ⟨a, rfl, h3⟩⟩
 ·have H3 := Lib.hid h3
  clear h3
  go_wp2
  refine leaves_cons (f := 49) (args := #[.pointer (some ⟨w.heap.size, 0, none⟩)]) (by simp) (by simp [go_sem]) ?_
  refine (catch_idle ⟨w.heap.size, 0, none⟩ _).mono ?_
  rintro e u' w'' ⟨rfl, rfl, rfl⟩
  have h3 := H3.out
  simpa [Leaves, settle, results, Tryz.results10, go_sem, h1] using h3
 ·have H3 := Lib.hid h3
  clear h3
  go_wp2
  refine leaves_cons (f := 49) (args := #[.pointer (some ⟨w.heap.size, 0, none⟩)]) (by simp) (by simp [go_sem]) ?_
  refine (catch_panicking ⟨w.heap.size, 0, none⟩ .nilIface a [] _ h1 h2).mono ?_
  rintro e u' w'' ⟨rfl, rfl, rfl⟩
  have h3 := H3.out
  simpa [Leaves, settle, results, Tryz.results10, go_sem, h1] using h3
end Go.Proofs.YtoimjnmhinfbkaaGreatDoor

namespace Go.Proofs.YtoimjnmhinfbkaaGreatDoor
open Go.RowKit
/-- cells in a row. -/
def Row (w : World) (b o : Nat) (cs : List Value) : Prop := ∀ i, ∀ h : i < cs.length, w.cell? ⟨b, o + i, none⟩ = some cs[i]
theorem cell_of_heap {w w' : World} {b o : Nat} (h : w'.heap[b]? = w.heap[b]?) : w'.cell? ⟨b, o, none⟩ = w.cell? ⟨b, o, none⟩ :=
 World.cell?_of_block (w := w) (a := ⟨b, o, none⟩) h
theorem Row.agree {w w' : World} {b o : Nat} {cs : List Value} (h : Row w b o cs) (hb : w'.heap[b]? = w.heap[b]?) : Row w' b o cs :=
 fun i hi => (cell_of_heap hb).trans (h i hi)
theorem Row.lt {w : World} {b o : Nat} {cs : List Value} (h : Row w b o cs) (hc : cs ≠ []) : b < w.heap.size := by
 cases cs with
 | nil => exact absurd rfl hc
 | cons c cs => exact World.block_lt_of_cell? w _ (h 0 (by simp))
/-- texts in memory: a slice's address, its elements. -/
def Strs (w : World) (S : Nat → Prop) (A : Option Addr) (ns : List ByteArray) : Prop :=
 ns = [] ∨ ∃ b o, A = some ⟨b, o, none⟩ ∧ S b ∧ Row w b o (ns.map Value.string)
theorem Strs.agree {w w' : World} {S S' : Nat → Prop} {A : Option Addr} {ns : List ByteArray} (h : Strs w S A ns)
  (hb : ∀ b, S b → b < w.heap.size → w'.heap[b]? = w.heap[b]? ∧ S' b) : Strs w' S' A ns := by
 rcases h with h | ⟨b, o, hA, hS, hr⟩
 ·exact .inl h
 ·by_cases hn : ns = []
  ·exact .inl hn
  ·have hl := hr.lt (by simpa using hn)
   exact .inr ⟨b, o, hA, (hb b hS hl).2, hr.agree (hb b hS hl).1⟩
/-- a value of layer 13, and of its reference. -/
inductive V where
 | mk (k : Int) (t : Bool) (x : ByteArray) (l : List V) (n : List ByteArray)
def V.kind : V → Int | .mk k _ _ _ _ => k
def V.tr : V → Bool | .mk _ t _ _ _ => t
def V.text : V → ByteArray | .mk _ _ x _ _ => x
def V.list : V → List V | .mk _ _ _ l _ => l
def V.names : V → List ByteArray | .mk _ _ _ _ n => n
mutual
def V.bulk : V → Nat
 | .mk _ _ x l n => 1 + x.size + V.bulks l + (n.map fun s => s.size + 1).sum
def V.bulks : List V → Nat
 | [] => 0
 | v :: vs => v.bulk + V.bulks vs
end
mutual
def V.Rep (w : World) (S : Nat → Prop) : V → List Value → Prop
 | .mk k t x l n, cs => ∃ A ca B cb, cs = [.int .i64 k, .bool t, .string x, .slice A l.length ca, .slice B n.length cb] ∧ l.length ≤ ca ∧ n.length ≤ cb ∧
   Strs w S B n ∧ (l = [] ∨ ∃ b o, A = some ⟨b, o, none⟩ ∧ S b ∧ V.Reps w S b o l)
def V.Reps (w : World) (S : Nat → Prop) (b : Nat) : Nat → List V → Prop
 | _, [] => True
 | o, v :: vs => (∃ cs, Row w b o cs ∧ v.Rep w S cs) ∧ V.Reps w S b (o + 5) vs
end
theorem V.bulks_mem {l : List V} {v : V} (h : v ∈ l) : v.bulk ≤ V.bulks l := by
 induction l with
 | nil => cases h
 | cons x xs ih =>
  simp only [V.bulks]
  rcases List.mem_cons.1 h with rfl | h
  ·omega
  ·have := ih h; omega
theorem V.bulk_pos (v : V) : 0 < v.bulk := by cases v; simp only [V.bulk]; omega
theorem V.bulks_length (l : List V) : l.length ≤ V.bulks l := by
 induction l with
 | nil => simp [V.bulks]
 | cons x xs ih => simp only [V.bulks, List.length_cons]; have := x.bulk_pos; omega
theorem names_length (n : List ByteArray) : n.length ≤ (n.map fun s => s.size + 1).sum := by
 induction n with
 | nil => simp
 | cons x xs ih => simp only [List.length_cons, List.map_cons, List.sum_cons]; omega
theorem V.ind {p : V → Prop} (h : ∀ k t x l n, (∀ v ∈ l, p v) → p (.mk k t x l n)) (v : V) : p v := by
 have : ∀ m, ∀ v : V, v.bulk ≤ m → p v := by
  intro m
  induction m with
  | zero => intro v hv; have := v.bulk_pos; omega
  | succ m ih =>
   intro v hv
   obtain ⟨k, t, x, l, n⟩ := v
   refine h _ _ _ _ _ fun u hu => ih u ?_
   have := V.bulks_mem hu
   simp only [V.bulk] at hv
   omega
 exact this _ v (Nat.le_refl _)
theorem V.Reps.get {w : World} {S : Nat → Prop} {b : Nat} : ∀ {l : List V} {o : Nat}, V.Reps w S b o l → ∀ i, ∀ h : i < l.length,
  ∃ cs, Row w b (o + 5 * i) cs ∧ (l[i]).Rep w S cs := by
 intro l
 induction l with
 | nil => intro o _ i h; simp at h
 | cons v vs ih =>
  intro o h i hi
  obtain ⟨h0, h1⟩ := h
  cases i with
  | zero => simpa using h0
  | succ i =>
   obtain ⟨cs, hr, hv⟩ := ih h1 i (by simpa using hi)
   refine ⟨cs, ?_, by simpa using hv⟩
   have : o + 5 * (i + 1) = o + 5 + 5 * i := by omega
   rw [this]; exact hr
theorem V.Reps.mk {w : World} {S : Nat → Prop} {b : Nat} : ∀ {l : List V} {o : Nat}, (∀ i, ∀ h : i < l.length, ∃ cs, Row w b (o + 5 * i) cs ∧ (l[i]).Rep w S cs) → V.Reps w S b o l := by
 intro l
 induction l with
 | nil => intro o _; trivial
 | cons v vs ih =>
  intro o h
  refine ⟨by have h0 := h 0 (by simp); rw [List.getElem_cons_zero] at h0; exact h0, ih fun i hi => ?_⟩
  obtain ⟨cs, hr, hv⟩ := h (i + 1) (by simpa using hi)
  refine ⟨cs, ?_, by simpa using hv⟩
  have : o + 5 * (i + 1) = o + 5 + 5 * i := by omega
  rw [← this]; exact hr
theorem V.Rep.agree {w w' : World} {S S' : Nat → Prop} (hb : ∀ b, S b → b < w.heap.size → w'.heap[b]? = w.heap[b]? ∧ S' b) :
  ∀ (v : V) {cs : List Value}, v.Rep w S cs → v.Rep w' S' cs := by
 intro v
 induction v using V.ind with
 | h k t x l n ih =>
  intro cs ⟨A, ca, B, cb, hcs, h1, h2, h3, h4⟩
  refine ⟨A, ca, B, cb, hcs, h1, h2, h3.agree hb, ?_⟩
  rcases h4 with h4 | ⟨b, o, hA, hS, hr⟩
  ·exact .inl h4
  ·by_cases hl : l = []
   ·exact .inl hl
   ·have hlt : b < w.heap.size := by
     obtain ⟨v, vs, rfl⟩ := List.exists_cons_of_ne_nil hl
     obtain ⟨⟨cs, hr0, hv⟩, _⟩ := hr
     refine hr0.lt ?_
     rintro rfl
     cases v
     obtain ⟨_, _, _, _, h, _⟩ := hv
     cases h
    refine .inr ⟨b, o, hA, (hb b hS hlt).2, V.Reps.mk fun i hi => ?_⟩
    obtain ⟨cs, hr0, hv⟩ := hr.get i hi
    exact ⟨cs, hr0.agree (hb b hS hlt).1, ih _ (List.getElem_mem _) hv⟩
theorem V.Rep.open {w : World} {S : Nat → Prop} {v : V} {cs : List Value} (h : v.Rep w S cs) : ∃ A ca B cb,
  cs = [.int .i64 v.kind, .bool v.tr, .string v.text, .slice A v.list.length ca, .slice B v.names.length cb] ∧ v.list.length ≤ ca ∧ v.names.length ≤ cb ∧
   Strs w S B v.names ∧ (v.list = [] ∨ ∃ b o, A = some ⟨b, o, none⟩ ∧ S b ∧ V.Reps w S b o v.list) := by
 cases v; exact h
/-- what is below: as it was. -/
theorem below_agree {B : Nat} {w w' : World} (h : Below B w w') (b : Nat) (hb : b < B) : w'.heap[b]? = w.heap[b]? := h.block b hb
theorem bcell {B : Nat} {w w1 : World} (hb : Below B w w1) : (∀ b o, b < B → w1.cell? ⟨b, o, none⟩ = w.cell? ⟨b, o, none⟩) ∧ (∀ b o, b < B → w1.frozen? ⟨b, o, none⟩ = w.frozen? ⟨b, o, none⟩) :=
 ⟨fun b o h => hb.cell (p := ⟨b, o, none⟩) h, fun b o h => hb.frozen (p := ⟨b, o, none⟩) h⟩
/-- blocks with P are as they were. -/
structure Also (P : Nat → Prop) (w w' : World) : Prop where
 size : w.heap.size ≤ w'.heap.size
 block : ∀ b, P b → b < w.heap.size → w'.heap[b]? = w.heap[b]?
theorem Also.refl (P : Nat → Prop) (w : World) : Also P w w := ⟨Nat.le_refl _, fun _ _ _ => rfl⟩
theorem Also.trans {P : Nat → Prop} {a b c : World} (h : Also P a b) (k : Also P b c) : Also P a c :=
 ⟨Nat.le_trans h.size k.size, fun x hx hl => (k.block x hx (Nat.lt_of_lt_of_le hl h.size)).trans (h.block x hx hl)⟩
theorem Also.alloc {P : Nat → Prop} {a w : World} (h : Also P a w) (o : Obj) : Also P a (w.alloc o) :=
 h.trans ⟨by simp, fun b _ hl => Below.heap_alloc w o b hl⟩
theorem Also.drew {P : Nat → Prop} {a w : World} (h : Also P a w) : Also P a w.drew := ⟨h.size, h.block⟩
theorem Also.setCell {P : Nat → Prop} {a w : World} (h : Also P a w) {p : Addr} (hp : ¬ P p.block) (u : Value) : Also P a (w.setCell p u) :=
 h.trans ⟨by simp [World.setCell], fun b hb _ => Below.heap_setCell w p u b (by rintro rfl; exact hp hb)⟩
theorem Also.below {P : Nat → Prop} {a w w' : World} {B : Nat} (h : Also P a w) (hb : Below B w w') (hB : w.heap.size ≤ B) : Also P a w' :=
 h.trans ⟨hb.size, fun b _ hl => hb.block b (Nat.lt_of_lt_of_le hl hB)⟩
theorem V.Rep.also {w w' : World} {P S S' : Nat → Prop} {v : V} {cs : List Value} (h : v.Rep w S cs) (ha : Also P w w') (hs : ∀ b, S b → b < w.heap.size → P b ∧ S' b) : v.Rep w' S' cs :=
 h.agree fun b hb hl => ⟨ha.block b (hs b hb hl).1 hl, (hs b hb hl).2⟩
end Go.Proofs.YtoimjnmhinfbkaaGreatDoor

namespace Go.Proofs.YtoimjnmhinfbkaaGreatDoor
open Go.RowKit
set_option maxRecDepth 100000
theorem info9 : (Tryz.prog.info? 9).map (fun i => (i.zero, i.size, i.bytes)) = some (some (.string ⟨#[]⟩), 1, 16) := by kernel_rfl
theorem info27 : (Tryz.prog.info? 27).map (fun i => (i.zero, i.size, i.bytes)) = some (some (.agg #[.int .i64 0, .bool false, .string ⟨#[]⟩, .slice none 0 0, .slice none 0 0]), 5, 80) := by kernel_rfl
theorem clone9_nil (c : Nat) (w : World) :
  Calls Tryz.prog 93 #[.slice none 0 c] w fun e w' => e = .returned (.slice none 0 0) ∧ w' = w := by
 have hnil := fun w => Lib.run_eql_slice_nil (P := Tryz.prog) w 25 9 none 0 c 0 0 Tryz.underlying25
 go_enter Tryz.func93, Tryz.ntmps93
 go_wp2
 go_ret
 exact ⟨rfl, rfl⟩
set_option maxHeartbeats 400000 in
theorem clone9_some (a : Addr) (n c : Nat) (cs : List Value) (w : World) (hl : cs.length = n) (h : ∀ j u, cs[j]? = some u → w.cell? (a.add j) = some u) (h1 : ∀ u ∈ cs, u.oneCell' = true) (hn : n ≤ 8388608) :
  Calls Tryz.prog 93 #[.slice (some a) n c] w fun e w' => ∃ v, e = .returned v ∧ w'.ownsRow w.heap.size 9 1 v n cs ∧ Below w.heap.size w w' := by
 obtain ⟨i0, hi0, hz0, hz1, hz2⟩ := info_parts info9
 have hnil := fun w => Lib.run_eql_slice_nil (P := Tryz.prog) w 25 9 (some a) n c 0 0 Tryz.underlying25
 have Hl := Lib.hid hl
 have H := Lib.hid h
 clear hl h
 go_enter Tryz.func93, Tryz.ntmps93
 go_wp2_with (at_builtin; refine wpList_append_own _ rfl _ _ 25 rfl w.heap.size 9 i0 (.string ⟨#[]⟩) 1 16 Tryz.underlying25 hi0 hz0 hz1 hz2 rfl (by decide) (.slice (some ⟨w.heap.size, 0, none⟩) 0 0) 0 [] rfl (World.ownsRow_made w #[] 0 (Nat.le_refl _) (by decide) rfl) a n c cs rfl ?c1 ?c2 h1 ?c3 ?c4 ?c5 ?_)
 case c1 => simpa using Hl.out
 case c2 => intro j u hj; have h2 := H.out j u hj; exact (((Below.refl _ w).alloc (Nat.le_refl _) _).cell (World.block_lt_of_cell? w _ h2)).trans h2
 case c3 => unfold maxLen; omega
 case c4 => omega
 case c5 => simp
 intro v' w1 hown1 hgrow _
 go_wp2
 go_ret
 refine ⟨v', rfl, ?_, ((Below.refl _ w).alloc (Nat.le_refl _) _).grown hgrow (by simp) (by intro k hk; simp [Value.ownBlock] at hk; omega)⟩
 simpa using hown1
theorem clone27_nil (c : Nat) (w : World) :
  Calls Tryz.prog 94 #[.slice none 0 c] w fun e w' => e = .returned (.slice none 0 0) ∧ w' = w := by
 have hnil := fun w => Lib.run_eql_slice_nil (P := Tryz.prog) w 24 27 none 0 c 0 0 Tryz.underlying24
 go_enter Tryz.func94, Tryz.ntmps94
 go_wp2
 go_ret
 exact ⟨rfl, rfl⟩
set_option maxHeartbeats 400000 in
theorem clone27_some (a : Addr) (n c : Nat) (cs : List Value) (w : World) (hl : cs.length = n * 5) (h : ∀ j u, cs[j]? = some u → w.cell? (a.add j) = some u) (h1 : ∀ u ∈ cs, u.oneCell' = true) (hn : n ≤ 8388608) :
  Calls Tryz.prog 94 #[.slice (some a) n c] w fun e w' => ∃ v, e = .returned v ∧ w'.ownsRow w.heap.size 27 5 v n cs ∧ Below w.heap.size w w' := by
 obtain ⟨i0, hi0, hz0, hz1, hz2⟩ := info_parts info27
 have hnil := fun w => Lib.run_eql_slice_nil (P := Tryz.prog) w 24 27 (some a) n c 0 0 Tryz.underlying24
 have Hl := Lib.hid hl
 have H := Lib.hid h
 clear hl h
 go_enter Tryz.func94, Tryz.ntmps94
 go_wp2_with (at_builtin; refine wpList_append_own _ rfl _ _ 24 rfl w.heap.size 27 i0 (.agg #[.int .i64 0, .bool false, .string ⟨#[]⟩, .slice none 0 0, .slice none 0 0]) 5 80 Tryz.underlying24 hi0 hz0 hz1 hz2 rfl (by decide) (.slice (some ⟨w.heap.size, 0, none⟩) 0 0) 0 [] rfl (World.ownsRow_made w #[] 0 (Nat.le_refl _) (by decide) rfl) a n c cs rfl ?c1 ?c2 h1 ?c3 ?c4 ?c5 ?_)
 case c1 => simpa using Hl.out
 case c2 => intro j u hj; have h2 := H.out j u hj; exact (((Below.refl _ w).alloc (Nat.le_refl _) _).cell (World.block_lt_of_cell? w _ h2)).trans h2
 case c3 => unfold maxLen; omega
 case c4 => omega
 case c5 => simp
 intro v' w1 hown1 hgrow _
 go_wp2
 go_ret
 refine ⟨v', rfl, ?_, ((Below.refl _ w).alloc (Nat.le_refl _) _).grown hgrow (by simp) (by intro k hk; simp [Value.ownBlock] at hk; omega)⟩
 simpa using hown1
end Go.Proofs.YtoimjnmhinfbkaaGreatDoor

namespace Go.Proofs.YtoimjnmhinfbkaaGreatDoor
open Go.RowKit
set_option maxRecDepth 100000
/-- an owned row, as cells. -/
theorem own_row {w : World} {base : Nat} {e : TypeId} {size : Nat} {v : Value} {n : Nat} {xs : List Value} (h : w.ownsRow base e size v n xs) :
  ∃ A c, v = .slice A n c ∧ n ≤ c ∧ xs.length = n * size ∧ ((A = none ∧ n = 0) ∨ ∃ g, A = some ⟨g, 0, none⟩ ∧ base ≤ g ∧ g < w.heap.size ∧ Row w g 0 xs ∧ ∀ o, w.frozen? ⟨g, o, none⟩ = false) := by
 obtain ⟨hl, ⟨rfl, rfl⟩ | ⟨g, cap, cur, rfl, hb, hg, hn, hm, hs, ht⟩⟩ := h
 ·exact ⟨none, 0, rfl, Nat.le_refl _, hl, .inl ⟨rfl, rfl⟩⟩
 ·refine ⟨_, cap, rfl, hn, hl, .inr ⟨g, rfl, hb, (Array.getElem?_eq_some_iff.1 hg).1, fun i hi => ?_, fun o => by simp [World.frozen?, hg]⟩⟩
  rw [cell_of_row w g _ cur e (0, 0) hg]
  have h2 : (cur.toList.take (n * size))[i]? = some xs[i] := by rw [ht]; simp
  rw [List.getElem?_take] at h2
  split at h2
  ·simpa using h2
  ·cases h2
theorem clone_strs (A : Option Addr) (ns : List ByteArray) (c : Nat) (w : World) (S : Nat → Prop) (h : Strs w S A ns) (hn : ns.length ≤ 8388608) :
  Calls Tryz.prog 93 #[.slice A ns.length c] w fun e w' => ∃ A' c', e = .returned (.slice A' ns.length c') ∧ ns.length ≤ c' ∧
   Strs w' (fun b => w.heap.size ≤ b ∧ b < w'.heap.size) A' ns ∧ Below w.heap.size w w' := by
 cases A with
 | none =>
  have hn0 : ns = [] := by rcases h with h | ⟨b, o, h, _⟩; exact h; cases h
  subst hn0
  refine (clone9_nil c w).mono ?_
  rintro e w' ⟨rfl, rfl⟩
  exact ⟨none, 0, rfl, Nat.le_refl _, .inl rfl, Below.refl _ _⟩
 | some a =>
  refine (clone9_some a ns.length c (ns.map Value.string) w (by simp) ?_ ?_ hn).mono ?_
  ·intro j u hj
   rcases h with h | ⟨b, o, hA, hS, hr⟩
   ·subst h; simp at hj
   ·cases hA
    obtain ⟨hj1, rfl⟩ := List.getElem?_eq_some_iff.1 hj
    have := hr j hj1
    rw [Addr.add_lit]; exact this
  ·intro u hu
   obtain ⟨_, _, rfl⟩ := List.mem_map.1 hu
   rfl
  ·rintro e w' ⟨v, rfl, hown, hb⟩
   obtain ⟨A', c', rfl, hc', hl, h2⟩ := own_row hown
   refine ⟨A', c', rfl, hc', ?_, hb⟩
   rcases h2 with ⟨_, h0⟩ | ⟨g, rfl, h1, h2, h3, _⟩
   ·exact .inl (List.eq_nil_of_length_eq_zero h0)
   ·exact .inr ⟨g, 0, rfl, ⟨h1, h2⟩, h3⟩
theorem V.Rep.one {w : World} {S : Nat → Prop} {v : V} {cs : List Value} (h : v.Rep w S cs) : ∀ u ∈ cs, u.oneCell' = true := by
 obtain ⟨A, ca, B, cb, rfl, _⟩ := h.open
 intro u hu
 simp at hu
 rcases hu with rfl | rfl | rfl | rfl | rfl <;> rfl
theorem V.Rep.len {w : World} {S : Nat → Prop} {v : V} {cs : List Value} (h : v.Rep w S cs) : cs.length = 5 := by
 obtain ⟨A, ca, B, cb, rfl, _⟩ := h.open
 rfl
/-- the cells of values side by side. -/
theorem V.Reps.flat {w : World} {S : Nat → Prop} {b : Nat} : ∀ {l : List V} {o : Nat}, V.Reps w S b o l →
  ∃ css : List Value, css.length = l.length * 5 ∧ Row w b o css ∧ (∀ u ∈ css, u.oneCell' = true) ∧ ∀ i, ∀ h : i < l.length, (l[i]).Rep w S ((css.drop (5 * i)).take 5) := by
 intro l
 induction l with
 | nil => intro o _; exact ⟨[], rfl, fun i h => by simp at h, fun u h => by simp at h, fun i h => by simp at h⟩
 | cons v vs ih =>
  intro o ⟨⟨cs, hr, hv⟩, h⟩
  obtain ⟨css, hl, hr2, h1, h2⟩ := ih h
  have hlen := hv.len
  refine ⟨cs ++ css, by simp [hl, hlen]; omega, fun i hi => ?_, fun u hu => ?_, fun i hi => ?_⟩
  ·by_cases hlt : i < cs.length
   ·rw [List.getElem_append_left hlt]; exact hr i hlt
   ·have hi' : i - cs.length < css.length := by rw [List.length_append] at hi; omega
    have h3 := hr2 (i - cs.length) hi'
    have e : (cs ++ css)[i] = css[i - cs.length] := List.getElem_append_right (by omega)
    rw [e, ← h3, show o + 5 + (i - cs.length) = o + i from by omega]
  ·rcases List.mem_append.1 hu with hu | hu
   ·exact hv.one u hu
   ·exact h1 u hu
  ·cases i with
   | zero =>
    have h5 : ((cs ++ css).drop (5 * 0)).take 5 = cs := by
     rw [Nat.mul_zero, List.drop_zero, ← hlen, List.take_left]
    rw [h5]; exact hv
   | succ i =>
    have h3 := h2 i (by simpa using hi)
    have h5 : ((cs ++ css).drop (5 * (i + 1))).take 5 = (css.drop (5 * i)).take 5 := by
     rw [show 5 * (i + 1) = cs.length + 5 * i from by omega, ← List.drop_drop, List.drop_left]
    rw [h5]; exact h3
theorem row_part {w : World} {b o : Nat} {cs : List Value} (h : Row w b o cs) (i m : Nat) : Row w b (o + i) ((cs.drop i).take m) := by
 intro j hj
 simp at hj
 have := h (i + j) (by omega)
 simpa [Nat.add_assoc] using this
theorem clone_vals (A : Option Addr) (l : List V) (c : Nat) (w : World) (S : Nat → Prop) (h : l = [] ∨ ∃ b o, A = some ⟨b, o, none⟩ ∧ S b ∧ V.Reps w S b o l) (hn : l.length ≤ 8388608) :
  Calls Tryz.prog 94 #[.slice A l.length c] w fun e w' => ∃ A' c', e = .returned (.slice A' l.length c') ∧ l.length ≤ c' ∧ Below w.heap.size w w' ∧
   (l = [] ∨ ∃ g, A' = some ⟨g, 0, none⟩ ∧ w.heap.size ≤ g ∧ g < w'.heap.size ∧ (∀ o, w'.frozen? ⟨g, o, none⟩ = false) ∧ ∀ i, ∀ hi : i < l.length, ∃ cs, Row w' g (5 * i) cs ∧ (l[i]).Rep w S cs) := by
 cases A with
 | none =>
  have hn0 : l = [] := by rcases h with h | ⟨b, o, h, _⟩; exact h; cases h
  subst hn0
  refine (clone27_nil c w).mono ?_
  rintro e w' ⟨rfl, rfl⟩
  exact ⟨none, 0, rfl, Nat.le_refl _, Below.refl _ _, .inl rfl⟩
 | some a =>
  by_cases h0 : l = []
  ·subst h0
   refine (clone27_some a 0 c [] w rfl (fun j u hj => by simp at hj) (fun u hu => by simp at hu) (by omega)).mono ?_
   rintro e w' ⟨v, rfl, hown, hb⟩
   obtain ⟨A', c', rfl, hc', hl, h2⟩ := own_row hown
   exact ⟨A', c', rfl, hc', hb, .inl rfl⟩
  ·rcases h with h | ⟨b, o, hA, hS, hr⟩
   ·exact absurd h h0
   cases hA
   obtain ⟨css, hcl, hrow, hone, hrep⟩ := hr.flat
   refine (clone27_some ⟨b, o, none⟩ l.length c css w hcl ?_ hone hn).mono ?_
   ·intro j u hj
    obtain ⟨hj1, rfl⟩ := List.getElem?_eq_some_iff.1 hj
    rw [Addr.add_lit]; exact hrow j hj1
   ·rintro e w' ⟨v, rfl, hown, hb⟩
    obtain ⟨A', c', rfl, hc', hl, h2⟩ := own_row hown
    refine ⟨A', c', rfl, hc', hb, ?_⟩
    rcases h2 with ⟨_, h0'⟩ | ⟨g, rfl, h1, h2, h3, h4⟩
    ·exact absurd (List.eq_nil_of_length_eq_zero h0') h0
    ·exact .inr ⟨g, rfl, h1, h2, h4, fun i hi => ⟨_, by simpa using row_part h3 (5 * i) 5, hrep i hi⟩⟩
/-- what holds at the head of Copy's loop, j elements being copied. -/
def CopyInv (w : World) (S : Nat → Prop) (c : Array Value) (l : List V) (n : List ByteArray) (A : Option Addr) (B : Option Addr) (p j : Nat) (wr : World) : Prop :=
 Below w.heap.size w wr ∧ wr.heap[w.heap.size + 1 + 1]? = some (.cells c 27 (0, 0)) ∧
 wr.heap[w.heap.size + 1]? = some (.cells #[.int .i64 0, .bool false, .string ⟨#[]⟩, .slice none 0 0, .slice none 0 0] 27 (0, 0)) ∧
 w.heap.size + 1 + 1 < p ∧ p ≤ wr.heap.size ∧
 Strs wr (fun b => w.heap.size + 1 + 1 < b ∧ b < p) B n ∧
 (l = [] ∨ ∃ g, A = some ⟨g, 0, none⟩ ∧ p ≤ g ∧ g < wr.heap.size ∧ (∀ o, wr.frozen? ⟨g, o, none⟩ = false) ∧
  ∀ i, ∀ hi : i < l.length, ∃ cs, Row wr g (5 * i) cs ∧ cs.length = 5 ∧ if i < j then (l[i]).Rep wr (fun b => g < b ∧ b < wr.heap.size) cs else (l[i]).Rep w S cs)
theorem setCells_block (b : Nat) : ∀ (vs : List Value) (o : Nat) (w : World) (k : Nat), k ≠ b → (w.setCells b o vs).heap[k]? = w.heap[k]?
 | [], _, _, _, _ => rfl
 | v :: vs, o, w, k, h => (setCells_block b vs (o + 1) (w.setCell ⟨b, o, none⟩ v) k h).trans (Below.heap_setCell w _ v k h)
theorem setCells_below {B : Nat} (b : Nat) (hb : B ≤ b) : ∀ (vs : List Value) (o : Nat) {a w : World}, Below B a w → Below B a (w.setCells b o vs)
 | [], _, _, _, h => h
 | v :: vs, o, _, _, h => setCells_below b hb vs (o + 1) (h.setCell hb v)
theorem setCells_size (b : Nat) (vs : List Value) (o : Nat) (w : World) : (w.setCells b o vs).heap.size = w.heap.size := by
 have h1 := (setCells_below (B := 0) b (Nat.zero_le _) vs o (Below.refl 0 w)).size
 induction vs generalizing o w with
 | nil => rfl
 | cons v vs ih =>
  have := ih (o + 1) (w.setCell ⟨b, o, none⟩ v) (setCells_below (B := 0) b (Nat.zero_le _) vs (o + 1) (Below.refl 0 _)).size
  simp only [World.setCells, this]
  simp [World.setCell]
/-- the round of Copy's loop. -/
theorem copy_round {w : World} {S : Nat → Prop} {c : Array Value} {l : List V} {n : List ByteArray} {g : Nat} {B : Option Addr} {p j : Nat} {wr w' : World}
  (hI : CopyInv w S c l n (some ⟨g, 0, none⟩) B p j wr) (hj : j < l.length) (hb : Below wr.drew.heap.size wr.drew w') {d : List Value}
  (hrep : (l[j]).Rep w' (fun b => wr.drew.heap.size ≤ b ∧ b < w'.heap.size) d) :
  CopyInv w S c l n (some ⟨g, 0, none⟩) B p (j + 1) (w'.setCells g (j * 5) d) := by
 obtain ⟨i1, i2, i3, i4, i5, i6, i7⟩ := hI
 obtain ⟨g', hg, g1, g2, g3, g4⟩ := i7.resolve_left (by rintro rfl; simp at hj)
 cases hg
 have hb2 : Below wr.heap.size wr w' := ⟨hb.os, hb.tape, hb.output, hb.size, hb.block⟩
 have hs := hb2.size
 have hd := hrep.len
 have far : ∀ k, k < wr.heap.size → k ≠ g → (w'.setCells g (j * 5) d).heap[k]? = wr.heap[k]? := fun k h1 h2 => (setCells_block g d _ _ k h2).trans (hb2.block k h1)
 have hB : w.heap.size ≤ g := by omega
 refine ⟨setCells_below g hB d _ (i1.trans (hb2.mono (by have := i1.size; omega))), ?_, ?_, i4, by rw [setCells_size]; omega, ?_, .inr ⟨g, rfl, g1, by rw [setCells_size]; omega, ?_, ?_⟩⟩
 ·rw [far _ (by omega) (by omega)]; exact i2
 ·rw [far _ (by omega) (by omega)]; exact i3
 ·exact i6.agree fun b hb hlt => ⟨far b hlt (by omega), hb⟩
 ·intro o
  rw [World.frozen?_setCells, hb2.frozen (p := ⟨g, o, none⟩) g2]
  exact g3 o
 ·intro i hi
  obtain ⟨cs, hr, h5, hrep2⟩ := g4 i hi
  have inside : ∀ r, r < 5 → ((w'.cell? ⟨g, j * 5 + r, none⟩).isSome = true) := by
   intro r hr5
   obtain ⟨cs', hr', h5', _⟩ := g4 j hj
   have h7 := hr' r (by omega)
   rw [Nat.mul_comm] at h7
   rw [hb2.cell (p := ⟨g, j * 5 + r, none⟩) g2, h7]
   rfl
  by_cases hij : i = j
  ·subst hij
   refine ⟨d, fun r hr5 => ?_, hd, ?_⟩
   ·rw [show 5 * i + r = i * 5 + r from by omega]
    exact World.cell?_setCells_in g d (i * 5) w' (fun r hr => inside r (by omega)) r hr5
   ·rw [if_pos (by omega)]
    refine hrep.agree (fun b hb hlt => ?_)
    have h8 : wr.heap.size ≤ b ∧ b < w'.heap.size := hb
    exact ⟨setCells_block g d _ _ b (by omega), by omega, by rw [setCells_size]; omega⟩
  ·refine ⟨cs, fun r hr5 => ?_, h5, ?_⟩
   ·rw [World.cell?_setCells_out g d (j * 5) w' ⟨g, 5 * i + r, none⟩ (fun _ _ => by simp only; omega), hb2.cell (p := ⟨g, 5 * i + r, none⟩) g2]
    exact hr r hr5
   ·by_cases hlt : i < j
    ·rw [if_pos hlt] at hrep2
     rw [if_pos (by omega)]
     refine hrep2.agree (fun b hb hlt => ⟨far b (by omega) (by omega), by omega, ?_⟩)
     rw [setCells_size]; omega
    ·rw [if_neg hlt] at hrep2
     rw [if_neg (by omega)]
     exact hrep2
theorem copy_done {w : World} {S : Nat → Prop} {l : List V} {n : List ByteArray} {A B : Option Addr} {p : Nat} {wr : World} {k : Int} {t : Bool} {x : ByteArray} {ca cb : Nat}
  (hI : CopyInv w S #[.int .i64 k, .bool t, .string x, .slice A l.length ca, .slice B n.length cb] l n A B p l.length wr) (hca : l.length ≤ ca) (hcb : n.length ≤ cb) (d : List Value) :
  (V.mk k t x l n).Rep (wr.setCells (w.heap.size + 1) 0 d) (fun b => w.heap.size ≤ b ∧ b < (wr.setCells (w.heap.size + 1) 0 d).heap.size) [.int .i64 k, .bool t, .string x, .slice A l.length ca, .slice B n.length cb] ∧
   Below w.heap.size w (wr.setCells (w.heap.size + 1) 0 d) := by
 obtain ⟨i1, i2, i3, i4, i5, i6, i7⟩ := hI
 have far : ∀ k, k ≠ w.heap.size + 1 → (wr.setCells (w.heap.size + 1) 0 d).heap[k]? = wr.heap[k]? := fun k h2 => setCells_block _ d _ _ k h2
 refine ⟨⟨A, ca, B, cb, rfl, hca, hcb, ?_, ?_⟩, setCells_below _ (by omega) d _ i1⟩
 ·exact i6.agree fun b hb hlt => ⟨far b (by omega), by omega, by rw [setCells_size]; omega⟩
 ·rcases i7 with h | ⟨g, hg, g1, g2, g3, g4⟩
  ·exact .inl h
  ·refine .inr ⟨g, 0, hg, ⟨by omega, by rw [setCells_size]; omega⟩, V.Reps.mk fun i hi => ?_⟩
   obtain ⟨cs, hr, h5, hrep⟩ := g4 i hi
   rw [if_pos hi] at hrep
   refine ⟨cs, ?_, hrep.agree fun b hb hlt => ⟨far b (by omega), by omega, by rw [setCells_size]; omega⟩⟩
   rw [Nat.zero_add]
   exact hr.agree (far g (by omega))
theorem blk_set {w : World} {g : Nat} {t : TypeId} {cs : Array Value} (h : w.heap[g]? = some (.cells cs t (0, 0))) (i : Nat) (u : Value) :
  (w.setCell ⟨g, i, none⟩ u).heap[g]? = some (.cells (cs.setIfInBounds i u) t (0, 0)) := by
 simp [World.setCell, Array.getElem?_modify, h]
theorem setCell_size (w : World) (a : Addr) (u : Value) : (w.setCell a u).heap.size = w.heap.size := by simp [World.setCell]
theorem alloc_at {w : World} {o : Obj} {k : Nat} (h : k = w.heap.size) : (w.alloc o).heap[k]? = some o := by subst h; exact heap_alloc_new w o
theorem alloc_before {w : World} {o : Obj} {k : Nat} (h : k < w.heap.size) : (w.alloc o).heap[k]? = w.heap[k]? := Below.heap_alloc w o k h
theorem copy_start {w : World} {S : Nat → Prop} {l : List V} {n : List ByteArray} {A B A' B' : Option Addr} {W3 w1 w2 : World} {k : Int} {t : Bool} {x : ByteArray} {ca cb ca' cb' : Nat}
  (h3 : Below w.heap.size w W3) (hs3 : W3.heap.size = w.heap.size + 3)
  (hB2 : W3.heap[w.heap.size + 1 + 1]? = some (.cells #[.int .i64 k, .bool t, .string x, .slice A l.length ca, .slice B n.length cb] 27 (0, 0)))
  (hB1 : W3.heap[w.heap.size + 1]? = some (.cells #[.int .i64 0, .bool false, .string ⟨#[]⟩, .slice none 0 0, .slice none 0 0] 27 (0, 0)))
  (hb1 : Below W3.heap.size W3 w1) (hS1 : Strs w1 (fun b => W3.heap.size ≤ b ∧ b < w1.heap.size) B' n)
  (hb2 : Below (w1.setCell ⟨w.heap.size + 1 + 1, 4, none⟩ (.slice B' n.length cb')).heap.size (w1.setCell ⟨w.heap.size + 1 + 1, 4, none⟩ (.slice B' n.length cb')) w2)
  (hrow : l = [] ∨ ∃ g, A' = some ⟨g, 0, none⟩ ∧ (w1.setCell ⟨w.heap.size + 1 + 1, 4, none⟩ (.slice B' n.length cb')).heap.size ≤ g ∧ g < w2.heap.size ∧ (∀ o, w2.frozen? ⟨g, o, none⟩ = false) ∧
   ∀ i, ∀ hi : i < l.length, ∃ cs, Row w2 g (5 * i) cs ∧ (l[i]).Rep (w1.setCell ⟨w.heap.size + 1 + 1, 4, none⟩ (.slice B' n.length cb')) (fun b => S b ∧ b < w.heap.size) cs) :
  CopyInv w S #[.int .i64 k, .bool t, .string x, .slice A' l.length ca', .slice B' n.length cb'] l n A' B' w1.heap.size 0 (w2.setCell ⟨w.heap.size + 1 + 1, 3, none⟩ (.slice A' l.length ca')) := by
 have hs1 := hb1.size
 have hs2 := hb2.size
 rw [setCell_size] at hs2 hb2
 have far : ∀ b, b < w1.heap.size → b ≠ w.heap.size + 1 + 1 → w2.heap[b]? = w1.heap[b]? := fun b h1 h2 => (hb2.block b h1).trans (Below.heap_setCell w1 _ _ b h2)
 have b1 : Below w.heap.size w w1 := h3.trans (hb1.mono (by omega))
 have b2 : Below w.heap.size w (w1.setCell ⟨w.heap.size + 1 + 1, 4, none⟩ (.slice B' n.length cb')) := b1.setCell (by simp only; omega) _
 have b3 : Below w.heap.size w w2 := b2.trans (hb2.mono (by omega))
 refine ⟨b3.setCell (by simp only; omega) _, ?_, ?_, by omega, by rw [setCell_size]; omega, ?_, ?_⟩
 ·have h := hb2.block (w.heap.size + 1 + 1) (by omega)
  rw [blk_set ((hb1.block _ (by omega)).trans hB2)] at h
  exact blk_set h 3 _
 ·rw [Below.heap_setCell w2 _ _ _ (by simp only; omega), far _ (by omega) (by omega), hb1.block _ (by omega)]
  exact hB1
 ·refine hS1.agree fun b hb hlt => ⟨?_, by omega, by omega⟩
  rw [Below.heap_setCell w2 _ _ _ (by simp only; omega), far _ (by omega) (by omega)]
 ·rcases hrow with h | ⟨g, hg, g1, g2, g3, g4⟩
  ·exact .inl h
  ·rw [setCell_size] at g1
   refine .inr ⟨g, hg, g1, by rw [setCell_size]; exact g2, fun o => by rw [World.frozen?_setCell]; exact g3 o, fun i hi => ?_⟩
   obtain ⟨cs, hr, hrep⟩ := g4 i hi
   refine ⟨cs, hr.agree (Below.heap_setCell w2 _ _ _ (by simp only; omega)), hrep.len, ?_⟩
   rw [if_neg (by omega)]
   exact hrep.agree fun b hb hlt => ⟨(b2.block b hb.2).symm, hb.1⟩
theorem copy_keep {W wr w' : World} (hb : Below W.heap.size W w') (hW : W.heap = wr.heap) {x : Value} {p : Addr} {g o : Nat} {c0 c1 c2 c3 c4 : Value} (hp : wr.cell? p = some x)
  (e0 : wr.cell? ⟨g, o, none⟩ = some c0) (e1 : wr.cell? ⟨g, o + 1, none⟩ = some c1) (e2 : wr.cell? ⟨g, o + 2, none⟩ = some c2) (e3 : wr.cell? ⟨g, o + 3, none⟩ = some c3) (e4 : wr.cell? ⟨g, o + 4, none⟩ = some c4)
  (hf : ∀ o, wr.frozen? ⟨g, o, none⟩ = false) :
  w'.cell? p = some x ∧ w'.cell? ⟨g, o, none⟩ = some c0 ∧ w'.cell? ⟨g, o + 1, none⟩ = some c1 ∧ w'.cell? ⟨g, o + 2, none⟩ = some c2 ∧ w'.cell? ⟨g, o + 3, none⟩ = some c3 ∧ w'.cell? ⟨g, o + 4, none⟩ = some c4 ∧
   ∀ o, w'.frozen? ⟨g, o, none⟩ = false := by
 have key : ∀ a y, wr.cell? a = some y → w'.cell? a = some y := fun a y h => by
  have h2 : W.cell? a = some y := by rw [← h]; exact World.cell?_of_block (w := wr) (by rw [hW])
  exact (hb.cell (World.block_lt_of_cell? W a h2)).trans h2
 refine ⟨key _ _ hp, key _ _ e0, key _ _ e1, key _ _ e2, key _ _ e3, key _ _ e4, fun o' => ?_⟩
 have hlt : g < W.heap.size := by rw [hW]; exact World.block_lt_of_cell? wr _ e0
 rw [hb.frozen (p := ⟨g, o', none⟩) hlt, ← hf o']
 exact World.frozen?_of_block (w := wr) (by rw [hW])
set_option maxHeartbeats 800000 in
theorem copy_step (k : Int) (t : Bool) (x : ByteArray) (l : List V) (n : List ByteArray)
  (ih : ∀ v ∈ l, ∀ (cs : List Value) (w : World) (S : Nat → Prop), v.bulk ≤ 4194304 → v.Rep w S cs →
   Calls Tryz.prog 50 #[.agg cs.toArray] w fun e w' => ∃ cs', e = .returned (.agg cs'.toArray) ∧ v.Rep w' (fun b => w.heap.size ≤ b ∧ b < w'.heap.size) cs' ∧ Below w.heap.size w w')
  (A : Option Addr) (ca : Nat) (B : Option Addr) (cb : Nat) (w : World) (S : Nat → Prop) (hca : l.length ≤ ca) (hcb : n.length ≤ cb) (hS : Strs w S B n)
  (hl : l = [] ∨ ∃ b o, A = some ⟨b, o, none⟩ ∧ S b ∧ V.Reps w S b o l) (hn : n.length ≤ 4194304) (hl2 : l.length ≤ 4194304) (hlb : ∀ v ∈ l, v.bulk ≤ 4194304) :
  Calls Tryz.prog 50 #[.agg #[.int .i64 k, .bool t, .string x, .slice A l.length ca, .slice B n.length cb]] w fun e w' =>
   ∃ cs', e = .returned (.agg cs'.toArray) ∧ (V.mk k t x l n).Rep w' (fun b => w.heap.size ≤ b ∧ b < w'.heap.size) cs' ∧ Below w.heap.size w w' := by
 have IH := Lib.hid ih
 have HL := Lib.hid hl
 have HS := Lib.hid hS
 have HLB := Lib.hid hlb
 clear ih hl hS hlb
 go_enter Tryz.func50, Tryz.ntmps50
 go_wp2_with fail
 refine (clone_strs B n cb _ S ?_ (by omega)).mono ?_
 ·exact HS.out.agree fun b hb hlt => ⟨below_agree ((((Below.refl w.heap.size w).alloc (Nat.le_refl _) _).alloc (by simp) _).alloc (by simp; omega) _) b hlt, hb⟩
 rintro e w1 ⟨B', cb', rfl, hcb', hS1, hb1⟩
 obtain ⟨hc1, hf1⟩ := bcell hb1
 have hz1 : w.heap.size + 1 + 1 < w1.heap.size := by have := hb1.size; simp at this; omega
 have hz2 : w.heap.size + 1 < w1.heap.size := by omega
 have hz3 : w.heap.size < w1.heap.size := by omega
 have HS1 := Lib.hid hS1
 clear hS1
 go_wp2_with fail
 refine (clone_vals A l ca _ (fun b => S b ∧ b < w.heap.size) ?_ (by omega)).mono ?_
 ·have b2 : Below w.heap.size w (w1.setCell ⟨w.heap.size + 1 + 1, 4, none⟩ (.slice B' n.length cb')) :=
   (((((Below.refl w.heap.size w).alloc (Nat.le_refl _) _).alloc (by simp) _).alloc (by simp; omega) _).trans (hb1.mono (by simp; omega))).setCell (by simp only; omega) _
  rcases HL.out with h | ⟨b, o, hA, hS, hr⟩
  ·exact .inl h
  ·by_cases h0 : l = []
   ·exact .inl h0
   have hlt : b < w.heap.size := by
    obtain ⟨cs, hr0, hv⟩ := hr.get 0 (List.length_pos_iff.2 h0)
    exact hr0.lt (by have := hv.len; rintro rfl; simp at this)
   exact .inr ⟨b, o, hA, ⟨hS, hlt⟩, V.Reps.mk fun i hi => by
    obtain ⟨cs, hr0, hv⟩ := hr.get i hi
    exact ⟨cs, hr0.agree (b2.block b hlt), hv.agree fun b hb hlt => ⟨b2.block b hlt, hb, hlt⟩⟩⟩
 rintro e w2 ⟨A', ca', rfl, hca', hb2, hrow⟩
 obtain ⟨hc2, hf2⟩ := bcell hb2
 have hy1 : w.heap.size + 1 + 1 < w2.heap.size := by have := hb2.size; simp at this; omega
 have hy2 : w.heap.size + 1 < w2.heap.size := by omega
 have hy3 : w.heap.size < w2.heap.size := by omega
 have hinv : CopyInv w S #[.int .i64 k, .bool t, .string x, .slice A' l.length ca', .slice B' n.length cb'] l n A' B' w1.heap.size 0 (w2.setCell ⟨w.heap.size + 1 + 1, 3, none⟩ (.slice A' l.length ca')) :=
  copy_start ((((Below.refl w.heap.size w).alloc (Nat.le_refl _) _).alloc (by simp) _).alloc (by simp; omega) _) (by simp) (alloc_at (by simp)) (by rw [alloc_before (by simp)]; exact alloc_at (by simp)) hb1 HS1.out hb2 hrow
 have HI := Lib.hid hinv
 clear hinv
 clear hrow
 go_wp2_with fail
 generalize hww : w2.setCell ⟨w.heap.size + 1 + 1, 3, none⟩ (.slice A' l.length ca') = ww at *
 clear hww
 go_loopw [17] (fun i wr => ∃ j : Nat, j ≤ l.length ∧ i = .int .i64 j ∧ CopyInv w S #[.int .i64 k, .bool t, .string x, .slice A' l.length ca', .slice B' n.length cb'] l n A' B' w1.heap.size j wr) (fun i _ => l.length - (intOf i).toNat)
 case atStart => exact ⟨0, Nat.zero_le _, rfl, HI.out⟩
 case round =>
  obtain ⟨j, hj, rfl, hI⟩ := hrel
  have HI2 := Lib.hid hI
  have HBW := Lib.hid hI.1
  obtain ⟨i1, i2, i3, i4, i5, i6, i7⟩ := hI
  clear HI hc1 hf1 hc2 hf2 hb1 hb2 HS1 hz1 hz2 hz3 hy1 hy2 hy3
  have I3 := Lib.hid i3
  have I2 := Lib.hid i2
  have I6 := Lib.hid i6
  have hb3 := cell_of_row wr (w.heap.size + 1 + 1) 3 _ 27 (0, 0) i2
  simp at hb3
  by_cases hlt : j < l.length
  ·obtain ⟨g, rfl, g1, g2, g3, g4⟩ := i7.resolve_left (by rintro rfl; simp at hlt)
   obtain ⟨cs, hr, h5, hrep⟩ := g4 j hlt
   rw [if_neg (by omega)] at hrep
   obtain ⟨c0, c1, c2, c3, c4, rfl⟩ : ∃ c0 c1 c2 c3 c4, cs = [c0, c1, c2, c3, c4] := by
    match cs, h5 with
    | [c0, c1, c2, c3, c4], _ => exact ⟨_, _, _, _, _, rfl⟩
   have e0 := hr 0 (by simp)
   have e1 := hr 1 (by simp)
   have e2 := hr 2 (by simp)
   have e3 := hr 3 (by simp)
   have e4 := hr 4 (by simp)
   simp at e0 e1 e2 e3 e4
   rw [Nat.mul_comm] at e0 e1 e2 e3 e4
   have hlt3 : w.heap.size + 1 + 1 < wr.heap.size := by omega
   have hj0 : (0 : Int) ≤ (j : Int) := Int.natCast_nonneg _
   have hj1 : (j : Int) < (l.length : Int) := by omega
   have G4 := Lib.hid g4
   have hrr : V.Rep wr.drew S l[j] [c0, c1, c2, c3, c4] := V.Rep.agree (w' := wr.drew) (fun b hb hlt => ⟨HBW.out.block b hlt, hb⟩) _ hrep
   have HREP := Lib.hid hrr
   clear hrr
   have HR := Lib.hid hr
   clear g4 hrep hr i2 i3 i6 i7
   go_wp2_with fail
   go_region_with (go_at_call 50; go_must (refine (IH.out _ (List.getElem_mem hlt) [c0, c1, c2, c3, c4] _ S (HLB.out _ (List.getElem_mem hlt)) HREP.out).mono ?_); rintro e w' ⟨cs', rfl, hrep', hb'⟩; obtain ⟨k0, k1, k2, k3, k4, k5, kf⟩ := copy_keep hb' rfl hb3 e0 e1 e2 e3 e4 g3; obtain ⟨A2, ca2, B2, cb2, rfl, -⟩ := hrep'.open; have HREP' := Lib.hid hrep'; clear hrep'; have hlt2 : g < w'.heap.size := by have := hb'.size; simp at this; omega)
   all_goals
    have HN := Lib.hid (copy_round HI2.out hlt hb' HREP'.out)
    clear k0 k1 k2 k3 k4 k5 kf HREP' hb'
    go_wp2
    go_roundw
    case rel => exact ⟨j + 1, hlt, by go_num, HN.out⟩
    case measure => simp [intOf]; omega
  ·have hj2 : j = l.length := by omega
   have HJ := Lib.hid hj2
   have hx2 := fun o => cell_of_row wr (w.heap.size + 1 + 1) o _ 27 (0, 0) i2
   have hx1 := fun o => cell_of_row wr (w.heap.size + 1) o _ 27 (0, 0) i3
   have hz1 : ∀ o, wr.frozen? ⟨w.heap.size + 1, o, none⟩ = false := fun o => by simp [World.frozen?, i3]
   clear hb3 i2 i3 i6 i7 hj2
   go_wp2
   obtain rfl := HJ.out
   refine bodyPost_ret (v := .agg #[.int .i64 k, .bool t, .string x, .slice A' l.length ca', .slice B' n.length cb']) (by simp [results, Tryz.results50, go_sem, hx1]) rfl ?_
   have h := copy_done HI2.out hca' hcb' [.int .i64 k, .bool t, .string x, .slice A' l.length ca', .slice B' n.length cb']
   exact ⟨[.int .i64 k, .bool t, .string x, .slice A' l.length ca', .slice B' n.length cb'], rfl, h⟩
/-- Copy: the same value, in new memory. -/
theorem copy_any (v : V) : ∀ (cs : List Value) (w : World) (S : Nat → Prop), v.bulk ≤ 4194304 → v.Rep w S cs →
  Calls Tryz.prog 50 #[.agg cs.toArray] w fun e w' => ∃ cs', e = .returned (.agg cs'.toArray) ∧ v.Rep w' (fun b => w.heap.size ≤ b ∧ b < w'.heap.size) cs' ∧ Below w.heap.size w w' := by
 induction v using V.ind with
 | h k t x l n ih =>
  intro cs w S hb ⟨A, ca, B, cb, hcs, h1, h2, h3, h4⟩
  subst hcs
  simp only [V.bulk] at hb
  have hn := names_length n
  have hl := V.bulks_length l
  exact copy_step k t x l n ih A ca B cb w S h1 h2 h3 h4 (by omega) (by omega) fun v hv => by have := V.bulks_mem hv; omega
end Go.Proofs.YtoimjnmhinfbkaaGreatDoor

namespace Go.Proofs
open Go.Shelf
def Tryz.lays169_ren : Go.Shelf.Ren := ⟨fun | 169 => 160 | n => n, fun | 70 => 232 | 9 => 9 | 0 => 0 | 72 => 234 | 37 => 87 | 127 => 263 | 3 => 3 | 5 => 5 | n => n, fun | n => n⟩
theorem Tryz.lays169 : Go.Proofs.Lays.n169 Tryz.prog Tryz.lays169_ren := {
 mixed := by kernel_rfl
 f169 := Tryz.func160.trans (congrArg some (by kernel_rfl))
 t0 := Tryz.underlying0
 a0 := Tryz.isAgg0
 z0 := Tryz.sizeOf0
 v0 := Tryz.zeroValue0
 t3 := Tryz.underlying3
 a3 := Tryz.isAgg3
 z3 := Tryz.sizeOf3
 v3 := Tryz.zeroValue3
 t9 := Tryz.underlying9
 a9 := Tryz.isAgg9
 z9 := Tryz.sizeOf9
 v9 := Tryz.zeroValue9
 t37 := Tryz.underlying87
 a37 := Tryz.isAgg87
 z37 := Tryz.sizeOf87
 v37 := Tryz.zeroValue87
 t70 := Tryz.underlying232
 a70 := Tryz.isAgg232
 z70 := Tryz.sizeOf232
 v70 := Tryz.zeroValue232
 t72 := Tryz.underlying234
 a72 := Tryz.isAgg234
 z72 := Tryz.sizeOf234
 v72 := Tryz.zeroValue234
 t127 := Tryz.underlying263
 a127 := Tryz.isAgg263
 z127 := Tryz.sizeOf263
 v127 := Tryz.zeroValue263 }
theorem Tryz.Builder_Extra_169 : Builder.Extra Tryz.prog Tryz.lays169_ren := {
 sizeBuilder := by kernel_rfl
 liesBuilder := by kernel_rfl
 t5 := Tryz.underlying5
 a5 := Tryz.isAgg5
 z5 := Tryz.sizeOf5
 v5 := Tryz.zeroValue5
 infoByte := by kernel_rfl
 cellsByte := by kernel_rfl
 sizeByte := by kernel_rfl
 neB5 := by decide }
def Tryz.lays161_ren : Go.Shelf.Ren := ⟨fun | 161 => 126 | 231 => 149 | 227 => 151 | 233 => 152 | 235 => 154 | 228 => 179 | 197 => 174 | 151 => 180 | 260 => 196 | 152 => 199 | 137 => 168 | 119 => 207 | 224 => 208 | 225 => 209 | 217 => 190 | 266 => 203 | n => n, fun | 9 => 9 | 4 => 4 | 3 => 3 | 5 => 5 | 117 => 226 | 116 => 225 | 0 => 0 | 124 => 229 | 105 => 247 | 21 => 21 | 119 => 285 | 46 => 118 | 139 => 288 | 138 => 287 | n => n, fun | 3 => 5 | 4 => 6 | n => n⟩
theorem Tryz.lays161 : Go.Proofs.Lays.n161 Tryz.prog Tryz.lays161_ren := {
 mixed := by kernel_rfl
 f119 := Tryz.func207.trans (congrArg some (by kernel_rfl))
 f137 := Tryz.func168.trans (congrArg some (by kernel_rfl))
 f151 := Tryz.func180.trans (congrArg some (by kernel_rfl))
 f152 := Tryz.func199.trans (congrArg some (by kernel_rfl))
 f161 := Tryz.func126.trans (congrArg some (by kernel_rfl))
 f197 := Tryz.func174.trans (congrArg some (by kernel_rfl))
 f217 := Tryz.func190.trans (congrArg some (by kernel_rfl))
 f224 := Tryz.func208.trans (congrArg some (by kernel_rfl))
 f225 := Tryz.func209.trans (congrArg some (by kernel_rfl))
 f227 := Tryz.func151.trans (congrArg some (by kernel_rfl))
 f228 := Tryz.func179.trans (congrArg some (by kernel_rfl))
 f231 := Tryz.func149.trans (congrArg some (by kernel_rfl))
 f233 := Tryz.func152.trans (congrArg some (by kernel_rfl))
 f235 := Tryz.func154.trans (congrArg some (by kernel_rfl))
 f260 := Tryz.func196.trans (congrArg some (by kernel_rfl))
 f266 := Tryz.func203.trans (congrArg some (by kernel_rfl))
 t0 := Tryz.underlying0
 a0 := Tryz.isAgg0
 z0 := Tryz.sizeOf0
 v0 := Tryz.zeroValue0
 t3 := Tryz.underlying3
 a3 := Tryz.isAgg3
 z3 := Tryz.sizeOf3
 v3 := Tryz.zeroValue3
 t4 := Tryz.underlying4
 a4 := Tryz.isAgg4
 z4 := Tryz.sizeOf4
 v4 := Tryz.zeroValue4
 t5 := Tryz.underlying5
 a5 := Tryz.isAgg5
 z5 := Tryz.sizeOf5
 v5 := Tryz.zeroValue5
 t9 := Tryz.underlying9
 a9 := Tryz.isAgg9
 z9 := Tryz.sizeOf9
 v9 := Tryz.zeroValue9
 t21 := Tryz.underlying21
 a21 := Tryz.isAgg21
 z21 := Tryz.sizeOf21
 v21 := Tryz.zeroValue21
 t46 := Tryz.underlying118
 a46 := Tryz.isAgg118
 z46 := Tryz.sizeOf118
 v46 := Tryz.zeroValue118
 t105 := Tryz.underlying247
 a105 := Tryz.isAgg247
 z105 := Tryz.sizeOf247
 v105 := Tryz.zeroValue247
 t116 := Tryz.underlying225
 a116 := Tryz.isAgg225
 z116 := Tryz.sizeOf225
 t117 := Tryz.underlying226
 a117 := Tryz.isAgg226
 z117 := Tryz.sizeOf226
 v117 := Tryz.zeroValue226
 t119 := Tryz.underlying285
 a119 := Tryz.isAgg285
 z119 := Tryz.sizeOf285
 t124 := Tryz.underlying229
 a124 := Tryz.isAgg229
 z124 := Tryz.sizeOf229
 v124 := Tryz.zeroValue229
 t138 := Tryz.underlying287
 a138 := Tryz.isAgg287
 z138 := Tryz.sizeOf287
 v138 := Tryz.zeroValue287
 t139 := Tryz.underlying288
 a139 := Tryz.isAgg288
 z139 := Tryz.sizeOf288
 v139 := Tryz.zeroValue288
 g3 := by kernel_rfl
 g4 := by kernel_rfl }
open Go.RowKit in
/-- strings.TrimLeft: "TrimLeft returns a slice of the string s with all leading Unicode code points contained in cutset removed.": AT A cutset OF ONE ASCII BYTE. The world is as it was. (LAID: no walk: one application.) -/
theorem Tryz.strings_TrimLeft_one (s : ByteArray) (c : UInt8) (hc : c.toNat < 128) (w : World) :
  Calls Tryz.prog 126 #[.string s, .string ⟨#[c]⟩] w fun e w' => e = .returned (.string ⟨(Lib.trimLeftB s.data.toList c).toArray⟩) ∧ w' = w := Any.strings_TrimLeft_one Tryz.lays161 s c hc w
def Tryz.lays160_ren : Go.Shelf.Ren := ⟨fun | 160 => 125 | 232 => 150 | 231 => 149 | 227 => 151 | 234 => 153 | 233 => 152 | 236 => 155 | 235 => 154 | 228 => 179 | 271 => 181 | 151 => 180 | 197 => 174 | 120 => 200 | 152 => 199 | 260 => 196 | 137 => 168 | 119 => 207 | 224 => 208 | 225 => 209 | 217 => 190 | 266 => 203 | n => n, fun | 9 => 9 | 4 => 4 | 3 => 3 | 5 => 5 | 117 => 226 | 116 => 225 | 0 => 0 | 124 => 229 | 21 => 21 | 105 => 247 | 46 => 118 | 119 => 285 | 139 => 288 | 138 => 287 | n => n, fun | 3 => 5 | 4 => 6 | n => n⟩
theorem Tryz.lays160 : Go.Proofs.Lays.n160 Tryz.prog Tryz.lays160_ren := {
 mixed := by kernel_rfl
 f119 := Tryz.func207.trans (congrArg some (by kernel_rfl))
 f120 := Tryz.func200.trans (congrArg some (by kernel_rfl))
 f137 := Tryz.func168.trans (congrArg some (by kernel_rfl))
 f151 := Tryz.func180.trans (congrArg some (by kernel_rfl))
 f152 := Tryz.func199.trans (congrArg some (by kernel_rfl))
 f160 := Tryz.func125.trans (congrArg some (by kernel_rfl))
 f197 := Tryz.func174.trans (congrArg some (by kernel_rfl))
 f217 := Tryz.func190.trans (congrArg some (by kernel_rfl))
 f224 := Tryz.func208.trans (congrArg some (by kernel_rfl))
 f225 := Tryz.func209.trans (congrArg some (by kernel_rfl))
 f227 := Tryz.func151.trans (congrArg some (by kernel_rfl))
 f228 := Tryz.func179.trans (congrArg some (by kernel_rfl))
 f231 := Tryz.func149.trans (congrArg some (by kernel_rfl))
 f232 := Tryz.func150.trans (congrArg some (by kernel_rfl))
 f233 := Tryz.func152.trans (congrArg some (by kernel_rfl))
 f234 := Tryz.func153.trans (congrArg some (by kernel_rfl))
 f235 := Tryz.func154.trans (congrArg some (by kernel_rfl))
 f236 := Tryz.func155.trans (congrArg some (by kernel_rfl))
 f260 := Tryz.func196.trans (congrArg some (by kernel_rfl))
 f266 := Tryz.func203.trans (congrArg some (by kernel_rfl))
 f271 := Tryz.func181.trans (congrArg some (by kernel_rfl))
 t0 := Tryz.underlying0
 a0 := Tryz.isAgg0
 z0 := Tryz.sizeOf0
 v0 := Tryz.zeroValue0
 t3 := Tryz.underlying3
 a3 := Tryz.isAgg3
 z3 := Tryz.sizeOf3
 v3 := Tryz.zeroValue3
 t4 := Tryz.underlying4
 a4 := Tryz.isAgg4
 z4 := Tryz.sizeOf4
 v4 := Tryz.zeroValue4
 t5 := Tryz.underlying5
 a5 := Tryz.isAgg5
 z5 := Tryz.sizeOf5
 v5 := Tryz.zeroValue5
 t9 := Tryz.underlying9
 a9 := Tryz.isAgg9
 z9 := Tryz.sizeOf9
 v9 := Tryz.zeroValue9
 t21 := Tryz.underlying21
 a21 := Tryz.isAgg21
 z21 := Tryz.sizeOf21
 v21 := Tryz.zeroValue21
 t46 := Tryz.underlying118
 a46 := Tryz.isAgg118
 z46 := Tryz.sizeOf118
 v46 := Tryz.zeroValue118
 t105 := Tryz.underlying247
 a105 := Tryz.isAgg247
 z105 := Tryz.sizeOf247
 v105 := Tryz.zeroValue247
 t116 := Tryz.underlying225
 a116 := Tryz.isAgg225
 z116 := Tryz.sizeOf225
 t117 := Tryz.underlying226
 a117 := Tryz.isAgg226
 z117 := Tryz.sizeOf226
 v117 := Tryz.zeroValue226
 t119 := Tryz.underlying285
 a119 := Tryz.isAgg285
 z119 := Tryz.sizeOf285
 t124 := Tryz.underlying229
 a124 := Tryz.isAgg229
 z124 := Tryz.sizeOf229
 v124 := Tryz.zeroValue229
 t138 := Tryz.underlying287
 a138 := Tryz.isAgg287
 z138 := Tryz.sizeOf287
 v138 := Tryz.zeroValue287
 t139 := Tryz.underlying288
 a139 := Tryz.isAgg288
 z139 := Tryz.sizeOf288
 v139 := Tryz.zeroValue288
 g3 := by kernel_rfl
 g4 := by kernel_rfl }
open Go.RowKit in
/-- strings.Trim: "Trim returns a slice of the string s with all leading and trailing Unicode code points contained in cutset removed.": AT A cutset OF ONE ASCII BYTE. THE WORLD BEHIND IT: as it was, or (where s is not empty) with ONE DRAW MORE off the tape: the statement 'return trimLeftByte(trimRightByte(s, c), c)' draws its order of evaluation. (LAID: no walk: one application.) -/
theorem Tryz.strings_Trim_one (s : ByteArray) (c : UInt8) (hc : c.toNat < 128) (w : World) (hs : s.size ≤ 9223372036854775807) :
  Calls Tryz.prog 125 #[.string s, .string ⟨#[c]⟩] w fun e w' => e = .returned (.string ⟨(Lib.trimB s.data.toList c).toArray⟩) ∧ (w' = w ∨ w' = w.drew) := Any.strings_Trim_one Tryz.lays160 s c hc w hs
def Tryz.lays137_ren : Go.Shelf.Ren := ⟨fun | 137 => 168 | 217 => 190 | 266 => 203 | n => n, fun | 9 => 9 | 5 => 5 | 3 => 3 | n => n, fun | n => n⟩
theorem Tryz.lays137 : Go.Proofs.Lays.n137 Tryz.prog Tryz.lays137_ren := {
 mixed := by kernel_rfl
 f137 := Tryz.func168.trans (congrArg some (by kernel_rfl))
 f217 := Tryz.func190.trans (congrArg some (by kernel_rfl))
 f266 := Tryz.func203.trans (congrArg some (by kernel_rfl))
 t3 := Tryz.underlying3
 a3 := Tryz.isAgg3
 z3 := Tryz.sizeOf3
 v3 := Tryz.zeroValue3
 t5 := Tryz.underlying5
 a5 := Tryz.isAgg5
 z5 := Tryz.sizeOf5
 v5 := Tryz.zeroValue5
 t9 := Tryz.underlying9
 a9 := Tryz.isAgg9
 z9 := Tryz.sizeOf9
 v9 := Tryz.zeroValue9 }
open Go.RowKit in
/-- strings.IndexByte: "IndexByte returns the index of the first instance of c in s, or -1 if c is not present in s.": IT RETURNS 'Lib.indexByte s c'; the world is as it was. (LAID: no walk: one application.) -/
theorem Tryz.strings_IndexByte (s : ByteArray) (c : Int) (w : World) :
  Calls Tryz.prog 168 #[.string s, .int .u8 c] w fun e w' => e = .returned (.int .i64 (Lib.indexByte s.data.toList c.toNat.toUInt8)) ∧ w' = w := Any.strings_IndexByte Tryz.lays137 s c w
def Tryz.lays103_ren : Go.Shelf.Ren := ⟨fun | 103 => 133 | 210 => 167 | 206 => 178 | n => n, fun | 9 => 9 | 4 => 4 | 24 => 161 | 3 => 3 | n => n, fun | n => n⟩
theorem Tryz.lays103 : Go.Proofs.Lays.n103 Tryz.prog Tryz.lays103_ren := {
 mixed := by kernel_rfl
 f103 := Tryz.func133.trans (congrArg some (by kernel_rfl))
 f206 := Tryz.func178.trans (congrArg some (by kernel_rfl))
 f210 := Tryz.func167.trans (congrArg some (by kernel_rfl))
 t3 := Tryz.underlying3
 a3 := Tryz.isAgg3
 z3 := Tryz.sizeOf3
 v3 := Tryz.zeroValue3
 t4 := Tryz.underlying4
 a4 := Tryz.isAgg4
 z4 := Tryz.sizeOf4
 v4 := Tryz.zeroValue4
 t9 := Tryz.underlying9
 a9 := Tryz.isAgg9
 z9 := Tryz.sizeOf9
 v9 := Tryz.zeroValue9
 t24 := Tryz.underlying161
 a24 := Tryz.isAgg161
 z24 := Tryz.sizeOf161
 v24 := Tryz.zeroValue161 }
open Go.RowKit in
/-- strings.CutPrefix: "CutPrefix returns s without the provided leading prefix string and reports whether it found the prefix. If s doesn't start with prefix, CutPrefix returns s, false. If prefix is the empty string, CutPrefix returns s, true.": IT RETURNS '(Lib.trimPrefix s p, Lib.hasPrefix s p)'; the world is as it was. (LAID: no walk: one application.) -/
theorem Tryz.strings_CutPrefix (s p : ByteArray) (w : World) :
  Calls Tryz.prog 133 #[.string s, .string p] w fun e w' => e = .returned (.tuple #[.string ⟨(Lib.trimPrefix s.data.toList p.data.toList).toArray⟩, .bool (Lib.hasPrefix s.data.toList p.data.toList)]) ∧ w' = w := Any.strings_CutPrefix Tryz.lays103 s p w
open Go.RowKit in
/-- (*strings.Builder).String: "String returns the accumulated string.": WHATEVER THE BUILDER HOLDS; THE FORM '_f': OF A BUILDER THAT MAY HAVE BEEN READ BEFORE; AND IT IS A BUILDER STILL, holding the same bytes: it can be written on. (LAID: no walk: one application.) -/
theorem Tryz.Builder_String_any_f (B b : Nat) (l : List UInt8) (w : World) (h : Lib.IsBuilderF 234 5 B b (Lib.byteCells l) w) (hBw : B ≤ w.heap.size) :
  Calls Tryz.prog 160 #[.pointer (some ⟨b, 0, none⟩)] w fun e w' => e = .returned (.string ⟨l.toArray⟩) ∧ (Lib.IsBuilderF 234 5 B b (Lib.byteCells l) w' ∧ Below B w w') := Any.Builder_String_any_f Tryz.lays169 Tryz.Builder_Extra_169 B b l w h hBw
def Tryz.laysC172_ren : Go.Shelf.Ren := ⟨fun | 172 => 147 | 244 => 177 | 245 => 129 | 247 => 128 | 279 => 162 | 280 => 163 | 281 => 164 | 282 => 165 | 287 => 161 | 316 => 188 | 171 => 76 | 205 => 189 | 321 => 186 | 322 => 187 | 243 => 109 | 246 => 135 | 283 => 169 | 284 => 170 | 285 => 171 | 286 => 172 | 129 => 192 | 317 => 191 | 318 => 193 | 319 => 194 | 320 => 195 | 337 => 204 | 338 => 205 | n => n, fun | 9 => 9 | 3 => 3 | 75 => 29 | 76 => 109 | 4 => 4 | 5 => 5 | 167 => 235 | 37 => 87 | 0 => 0 | 85 => 163 | 2 => 2 | 168 => 238 | 53 => 105 | 175 => 236 | 46 => 118 | 210 => 266 | 127 => 263 | 145 => 283 | 143 => 281 | 21 => 21 | 171 => 242 | 173 => 245 | 212 => 270 | 51 => 184 | 20 => 20 | 213 => 271 | 232 => 147 | 233 => 251 | 80 => 55 | n => n, fun | 15 => 1 | 16 => 2 | 17 => 3 | 18 => 8 | 19 => 9 | n => n⟩
theorem Tryz.laysC172 : Go.Proofs.LaysC.n172 Tryz.prog Tryz.laysC172_ren := {
 mixed := by kernel_rfl
 f129 := Tryz.func192.trans (congrArg some (by kernel_rfl))
 f171 := Tryz.func76.trans (congrArg some (by kernel_rfl))
 f172 := Tryz.func147.trans (congrArg some (by kernel_rfl))
 f205 := Tryz.func189.trans (congrArg some (by kernel_rfl))
 f243 := Tryz.func109.trans (congrArg some (by kernel_rfl))
 f244 := Tryz.func177.trans (congrArg some (by kernel_rfl))
 f245 := Tryz.func129.trans (congrArg some (by kernel_rfl))
 f246 := Tryz.func135.trans (congrArg some (by kernel_rfl))
 f247 := Tryz.func128.trans (congrArg some (by kernel_rfl))
 f279 := Tryz.func162.trans (congrArg some (by kernel_rfl))
 f280 := Tryz.func163.trans (congrArg some (by kernel_rfl))
 f281 := Tryz.func164.trans (congrArg some (by kernel_rfl))
 f282 := Tryz.func165.trans (congrArg some (by kernel_rfl))
 f283 := Tryz.func169.trans (congrArg some (by kernel_rfl))
 f284 := Tryz.func170.trans (congrArg some (by kernel_rfl))
 f285 := Tryz.func171.trans (congrArg some (by kernel_rfl))
 f286 := Tryz.func172.trans (congrArg some (by kernel_rfl))
 f287 := Tryz.func161.trans (congrArg some (by kernel_rfl))
 f316 := Tryz.func188.trans (congrArg some (by kernel_rfl))
 f317 := Tryz.func191.trans (congrArg some (by kernel_rfl))
 f318 := Tryz.func193.trans (congrArg some (by kernel_rfl))
 f319 := Tryz.func194.trans (congrArg some (by kernel_rfl))
 f320 := Tryz.func195.trans (congrArg some (by kernel_rfl))
 f321 := Tryz.func186.trans (congrArg some (by kernel_rfl))
 f322 := Tryz.func187.trans (congrArg some (by kernel_rfl))
 f337 := Tryz.func204.trans (congrArg some (by kernel_rfl))
 f338 := Tryz.func205.trans (congrArg some (by kernel_rfl))
 t0 := Tryz.underlying0
 a0 := Tryz.isAgg0
 z0 := Tryz.sizeOf0
 v0 := Tryz.zeroValue0
 t2 := Tryz.underlying2
 a2 := Tryz.isAgg2
 z2 := Tryz.sizeOf2
 v2 := Tryz.zeroValue2
 t3 := Tryz.underlying3
 a3 := Tryz.isAgg3
 z3 := Tryz.sizeOf3
 v3 := Tryz.zeroValue3
 t4 := Tryz.underlying4
 a4 := Tryz.isAgg4
 z4 := Tryz.sizeOf4
 v4 := Tryz.zeroValue4
 t5 := Tryz.underlying5
 a5 := Tryz.isAgg5
 z5 := Tryz.sizeOf5
 v5 := Tryz.zeroValue5
 t9 := Tryz.underlying9
 a9 := Tryz.isAgg9
 z9 := Tryz.sizeOf9
 v9 := Tryz.zeroValue9
 t20 := Tryz.underlying20
 a20 := Tryz.isAgg20
 z20 := Tryz.sizeOf20
 v20 := Tryz.zeroValue20
 t21 := Tryz.underlying21
 a21 := Tryz.isAgg21
 z21 := Tryz.sizeOf21
 v21 := Tryz.zeroValue21
 t37 := Tryz.underlying87
 a37 := Tryz.isAgg87
 z37 := Tryz.sizeOf87
 v37 := Tryz.zeroValue87
 t46 := Tryz.underlying118
 a46 := Tryz.isAgg118
 z46 := Tryz.sizeOf118
 v46 := Tryz.zeroValue118
 t51 := Tryz.underlying184
 a51 := Tryz.isAgg184
 z51 := Tryz.sizeOf184
 v51 := Tryz.zeroValue184
 t53 := Tryz.underlying105
 a53 := Tryz.isAgg105
 z53 := Tryz.sizeOf105
 v53 := Tryz.zeroValue105
 t75 := Tryz.underlying29
 a75 := Tryz.isAgg29
 z75 := Tryz.sizeOf29
 v75 := Tryz.zeroValue29
 t76 := Tryz.underlying109
 a76 := Tryz.isAgg109
 z76 := Tryz.sizeOf109
 v76 := Tryz.zeroValue109
 t85 := Tryz.underlying163
 a85 := Tryz.isAgg163
 z85 := Tryz.sizeOf163
 v85 := Tryz.zeroValue163
 t127 := Tryz.underlying263
 a127 := Tryz.isAgg263
 z127 := Tryz.sizeOf263
 v127 := Tryz.zeroValue263
 t143 := Tryz.underlying281
 a143 := Tryz.isAgg281
 z143 := Tryz.sizeOf281
 v143 := Tryz.zeroValue281
 t145 := Tryz.underlying283
 a145 := Tryz.isAgg283
 z145 := Tryz.sizeOf283
 v145 := Tryz.zeroValue283
 t167 := Tryz.underlying235
 a167 := Tryz.isAgg235
 z167 := Tryz.sizeOf235
 v167 := Tryz.zeroValue235
 t168 := Tryz.underlying238
 a168 := Tryz.isAgg238
 z168 := Tryz.sizeOf238
 v168 := Tryz.zeroValue238
 t171 := Tryz.underlying242
 a171 := Tryz.isAgg242
 z171 := Tryz.sizeOf242
 v171 := Tryz.zeroValue242
 t173 := Tryz.underlying245
 a173 := Tryz.isAgg245
 z173 := Tryz.sizeOf245
 v173 := Tryz.zeroValue245
 t175 := Tryz.underlying236
 a175 := Tryz.isAgg236
 z175 := Tryz.sizeOf236
 v175 := Tryz.zeroValue236
 t210 := Tryz.underlying266
 a210 := Tryz.isAgg266
 z210 := Tryz.sizeOf266
 v210 := Tryz.zeroValue266
 t212 := Tryz.underlying270
 a212 := Tryz.isAgg270
 z212 := Tryz.sizeOf270
 v212 := Tryz.zeroValue270
 t213 := Tryz.underlying271
 a213 := Tryz.isAgg271
 z213 := Tryz.sizeOf271
 t232 := Tryz.underlying147
 a232 := Tryz.isAgg147
 z232 := Tryz.sizeOf147
 v232 := Tryz.zeroValue147
 t233 := Tryz.underlying251
 a233 := Tryz.isAgg251
 z233 := Tryz.sizeOf251
 v233 := Tryz.zeroValue251
 g15 := by kernel_rfl
 g16 := by kernel_rfl
 g17 := by kernel_rfl
 g18 := by kernel_rfl
 g19 := by kernel_rfl
 t80 := Tryz.underlying55
 a80 := Tryz.isAgg55
 z80 := Tryz.sizeOf55
 v80 := Tryz.zeroValue55
 i0 := by kernel_rfl
 i2 := by kernel_rfl
 i3 := by kernel_rfl
 i4 := by kernel_rfl
 i5 := by kernel_rfl
 i9 := by kernel_rfl
 i20 := by kernel_rfl
 i21 := by kernel_rfl
 i37 := by kernel_rfl
 i46 := by kernel_rfl
 i51 := by kernel_rfl
 i53 := by kernel_rfl
 i75 := by kernel_rfl
 i76 := by kernel_rfl
 i80 := by kernel_rfl
 i85 := by kernel_rfl
 i127 := by kernel_rfl
 i143 := by kernel_rfl
 i145 := by kernel_rfl
 i167 := by kernel_rfl
 i168 := by kernel_rfl
 i171 := by kernel_rfl
 i173 := by kernel_rfl
 i175 := by kernel_rfl
 i210 := by kernel_rfl
 i212 := by kernel_rfl
 i232 := by kernel_rfl
 i233 := by kernel_rfl
 m15 := by kernel_rfl
 m16 := by kernel_rfl
 m17 := by kernel_rfl
 m18 := by kernel_rfl
 m19 := by kernel_rfl
 c0 := by kernel_rfl
 c2 := by kernel_rfl
 c3 := by kernel_rfl
 c4 := by kernel_rfl
 c5 := by kernel_rfl
 c9 := by kernel_rfl
 c20 := by kernel_rfl
 c21 := by kernel_rfl
 c37 := by kernel_rfl
 c46 := by kernel_rfl
 c51 := by kernel_rfl
 c53 := by kernel_rfl
 c75 := by kernel_rfl
 c76 := by kernel_rfl
 c80 := by kernel_rfl
 c85 := by kernel_rfl
 c127 := by kernel_rfl
 c143 := by kernel_rfl
 c145 := by kernel_rfl
 c167 := by kernel_rfl
 c168 := by kernel_rfl
 c171 := by kernel_rfl
 c173 := by kernel_rfl
 c175 := by kernel_rfl
 c210 := by kernel_rfl
 c212 := by kernel_rfl
 c213 := by kernel_rfl
 c232 := by kernel_rfl
 c233 := by kernel_rfl }
open Go.RowKit in
/-- strconv.Atoi, AT EVERY STRING THAT SPELLS AN int ('Lib.atoiAll .. = .ok v'; of whatever length: leading zeros count): v, AND NO ERROR. The world: as it was, or with the one new row that '[]byte(..)' lays. (LAID: no walk: one application.) -/
theorem Tryz.strconv_Atoi_ok (s : ByteArray) (hmax : s.size ≤ 9223372036854775806) (v : Int) (h : Lib.atoiAll s.data.toList = .ok v) (w : World) :
  Calls Tryz.prog 147 #[.string s] w fun e w' => e = .returned (.tuple #[.int .i64 v, .nilIface]) ∧ (w' = w ∨ ∃ t, w' = Lib.bytesWorld w 5 t) := Any.strconv_Atoi_ok Tryz.laysC172 s hmax v h w
open Go.RowKit in
/-- strconv.Atoi, AT EVERY STRING THAT IS NO DECIMAL NUMERAL (no numeral): 0, AND AN ERROR THAT IS NOT nil: a *NumError in a new block N: {Func: "Atoi", Num: s's bytes, Err: what the variable ErrSyntax holds}. Of what was there nothing has turned. (LAID: no walk: one application.) -/
theorem Tryz.strconv_Atoi_syntax (s : ByteArray) (hlim : s.size ≤ 281474976710656) (h : Lib.atoiAll s.data.toList = Lib.atoiAll []) (ev : Value) (w : World) (hv : w.cell? ⟨1, 0, none⟩ = some ev) (hev : ev = .nilIface ∨ ∃ te pe, ev = .iface te pe) :
  Calls Tryz.prog 147 #[.string s] w fun e w' => ∃ N, e = .returned (.tuple #[.int .i64 (0), .iface 238 (.pointer (some ⟨N, 0, none⟩))]) ∧ w.heap.size ≤ N ∧ w'.heap[N]? = some (.cells #[.string ⟨#[65, 116, 111, 105]⟩, .string s, ev] 266 (0, 0)) ∧ Below w.heap.size w w' := Any.strconv_Atoi_syntax Tryz.laysC172 s hlim h ev w hv hev
open Go.RowKit in
/-- strconv.Atoi, AT EVERY NUMERAL THAT NO int HOLDS ('.range'): THE GREATEST OR THE LEAST int, BY THE SIGN ('Lib.atoiSat'), AND AN ERROR THAT IS NOT nil: a *NumError in a new block N: {Func: "Atoi", Num: s's bytes, Err: what the variable ErrRange holds}. Of what was there nothing has turned. (LAID: no walk: one application.) -/
theorem Tryz.strconv_Atoi_range (s : ByteArray) (hlim : s.size ≤ 281474976710656) (h : Lib.atoiAll s.data.toList = .range) (ev : Value) (w : World) (hv : w.cell? ⟨2, 0, none⟩ = some ev) (hev : ev = .nilIface ∨ ∃ te pe, ev = .iface te pe) :
  Calls Tryz.prog 147 #[.string s] w fun e w' => ∃ N, e = .returned (.tuple #[.int .i64 (Lib.atoiSat s.data.toList), .iface 238 (.pointer (some ⟨N, 0, none⟩))]) ∧ w.heap.size ≤ N ∧ w'.heap[N]? = some (.cells #[.string ⟨#[65, 116, 111, 105]⟩, .string s, ev] 266 (0, 0)) ∧ Below w.heap.size w w' := Any.strconv_Atoi_range Tryz.laysC172 s hlim h ev w hv hev
def Tryz.laysC174_ren : Go.Shelf.Ren := ⟨fun | 174 => 97 | 247 => 128 | 245 => 129 | 287 => 161 | 279 => 162 | 280 => 163 | 281 => 164 | 282 => 165 | 321 => 186 | 322 => 187 | 316 => 188 | 171 => 76 | 205 => 189 | 243 => 109 | 246 => 135 | 283 => 169 | 284 => 170 | 285 => 171 | 286 => 172 | 129 => 192 | 317 => 191 | 318 => 193 | 319 => 194 | 320 => 195 | 337 => 204 | 338 => 205 | n => n, fun | 9 => 9 | 3 => 3 | 2 => 2 | 75 => 29 | 85 => 163 | 4 => 4 | 167 => 235 | 5 => 5 | 53 => 105 | 175 => 236 | 46 => 118 | 168 => 238 | 37 => 87 | 0 => 0 | 210 => 266 | 21 => 21 | 127 => 263 | 145 => 283 | 143 => 281 | 171 => 242 | 173 => 245 | 212 => 270 | 51 => 184 | 20 => 20 | 213 => 271 | 232 => 147 | 233 => 251 | 80 => 55 | n => n, fun | 15 => 1 | 16 => 2 | 17 => 3 | 18 => 8 | 19 => 9 | n => n⟩
theorem Tryz.laysC174 : Go.Proofs.LaysC.n174 Tryz.prog Tryz.laysC174_ren := {
 mixed := by kernel_rfl
 f129 := Tryz.func192.trans (congrArg some (by kernel_rfl))
 f171 := Tryz.func76.trans (congrArg some (by kernel_rfl))
 f174 := Tryz.func97.trans (congrArg some (by kernel_rfl))
 f205 := Tryz.func189.trans (congrArg some (by kernel_rfl))
 f243 := Tryz.func109.trans (congrArg some (by kernel_rfl))
 f245 := Tryz.func129.trans (congrArg some (by kernel_rfl))
 f246 := Tryz.func135.trans (congrArg some (by kernel_rfl))
 f247 := Tryz.func128.trans (congrArg some (by kernel_rfl))
 f279 := Tryz.func162.trans (congrArg some (by kernel_rfl))
 f280 := Tryz.func163.trans (congrArg some (by kernel_rfl))
 f281 := Tryz.func164.trans (congrArg some (by kernel_rfl))
 f282 := Tryz.func165.trans (congrArg some (by kernel_rfl))
 f283 := Tryz.func169.trans (congrArg some (by kernel_rfl))
 f284 := Tryz.func170.trans (congrArg some (by kernel_rfl))
 f285 := Tryz.func171.trans (congrArg some (by kernel_rfl))
 f286 := Tryz.func172.trans (congrArg some (by kernel_rfl))
 f287 := Tryz.func161.trans (congrArg some (by kernel_rfl))
 f316 := Tryz.func188.trans (congrArg some (by kernel_rfl))
 f317 := Tryz.func191.trans (congrArg some (by kernel_rfl))
 f318 := Tryz.func193.trans (congrArg some (by kernel_rfl))
 f319 := Tryz.func194.trans (congrArg some (by kernel_rfl))
 f320 := Tryz.func195.trans (congrArg some (by kernel_rfl))
 f321 := Tryz.func186.trans (congrArg some (by kernel_rfl))
 f322 := Tryz.func187.trans (congrArg some (by kernel_rfl))
 f337 := Tryz.func204.trans (congrArg some (by kernel_rfl))
 f338 := Tryz.func205.trans (congrArg some (by kernel_rfl))
 t0 := Tryz.underlying0
 a0 := Tryz.isAgg0
 z0 := Tryz.sizeOf0
 v0 := Tryz.zeroValue0
 t2 := Tryz.underlying2
 a2 := Tryz.isAgg2
 z2 := Tryz.sizeOf2
 v2 := Tryz.zeroValue2
 t3 := Tryz.underlying3
 a3 := Tryz.isAgg3
 z3 := Tryz.sizeOf3
 v3 := Tryz.zeroValue3
 t4 := Tryz.underlying4
 a4 := Tryz.isAgg4
 z4 := Tryz.sizeOf4
 v4 := Tryz.zeroValue4
 t5 := Tryz.underlying5
 a5 := Tryz.isAgg5
 z5 := Tryz.sizeOf5
 v5 := Tryz.zeroValue5
 t9 := Tryz.underlying9
 a9 := Tryz.isAgg9
 z9 := Tryz.sizeOf9
 v9 := Tryz.zeroValue9
 t20 := Tryz.underlying20
 a20 := Tryz.isAgg20
 z20 := Tryz.sizeOf20
 v20 := Tryz.zeroValue20
 t21 := Tryz.underlying21
 a21 := Tryz.isAgg21
 z21 := Tryz.sizeOf21
 v21 := Tryz.zeroValue21
 t37 := Tryz.underlying87
 a37 := Tryz.isAgg87
 z37 := Tryz.sizeOf87
 v37 := Tryz.zeroValue87
 t46 := Tryz.underlying118
 a46 := Tryz.isAgg118
 z46 := Tryz.sizeOf118
 v46 := Tryz.zeroValue118
 t51 := Tryz.underlying184
 a51 := Tryz.isAgg184
 z51 := Tryz.sizeOf184
 v51 := Tryz.zeroValue184
 t53 := Tryz.underlying105
 a53 := Tryz.isAgg105
 z53 := Tryz.sizeOf105
 v53 := Tryz.zeroValue105
 t75 := Tryz.underlying29
 a75 := Tryz.isAgg29
 z75 := Tryz.sizeOf29
 v75 := Tryz.zeroValue29
 t85 := Tryz.underlying163
 a85 := Tryz.isAgg163
 z85 := Tryz.sizeOf163
 v85 := Tryz.zeroValue163
 t127 := Tryz.underlying263
 a127 := Tryz.isAgg263
 z127 := Tryz.sizeOf263
 v127 := Tryz.zeroValue263
 t143 := Tryz.underlying281
 a143 := Tryz.isAgg281
 z143 := Tryz.sizeOf281
 v143 := Tryz.zeroValue281
 t145 := Tryz.underlying283
 a145 := Tryz.isAgg283
 z145 := Tryz.sizeOf283
 v145 := Tryz.zeroValue283
 t167 := Tryz.underlying235
 a167 := Tryz.isAgg235
 z167 := Tryz.sizeOf235
 v167 := Tryz.zeroValue235
 t168 := Tryz.underlying238
 a168 := Tryz.isAgg238
 z168 := Tryz.sizeOf238
 v168 := Tryz.zeroValue238
 t171 := Tryz.underlying242
 a171 := Tryz.isAgg242
 z171 := Tryz.sizeOf242
 v171 := Tryz.zeroValue242
 t173 := Tryz.underlying245
 a173 := Tryz.isAgg245
 z173 := Tryz.sizeOf245
 v173 := Tryz.zeroValue245
 t175 := Tryz.underlying236
 a175 := Tryz.isAgg236
 z175 := Tryz.sizeOf236
 v175 := Tryz.zeroValue236
 t210 := Tryz.underlying266
 a210 := Tryz.isAgg266
 z210 := Tryz.sizeOf266
 v210 := Tryz.zeroValue266
 t212 := Tryz.underlying270
 a212 := Tryz.isAgg270
 z212 := Tryz.sizeOf270
 v212 := Tryz.zeroValue270
 t213 := Tryz.underlying271
 a213 := Tryz.isAgg271
 z213 := Tryz.sizeOf271
 t232 := Tryz.underlying147
 a232 := Tryz.isAgg147
 z232 := Tryz.sizeOf147
 v232 := Tryz.zeroValue147
 t233 := Tryz.underlying251
 a233 := Tryz.isAgg251
 z233 := Tryz.sizeOf251
 v233 := Tryz.zeroValue251
 g15 := by kernel_rfl
 g16 := by kernel_rfl
 g17 := by kernel_rfl
 g18 := by kernel_rfl
 g19 := by kernel_rfl
 t80 := Tryz.underlying55
 a80 := Tryz.isAgg55
 z80 := Tryz.sizeOf55
 v80 := Tryz.zeroValue55
 i0 := by kernel_rfl
 i2 := by kernel_rfl
 i3 := by kernel_rfl
 i4 := by kernel_rfl
 i5 := by kernel_rfl
 i9 := by kernel_rfl
 i20 := by kernel_rfl
 i21 := by kernel_rfl
 i37 := by kernel_rfl
 i46 := by kernel_rfl
 i51 := by kernel_rfl
 i53 := by kernel_rfl
 i75 := by kernel_rfl
 i80 := by kernel_rfl
 i85 := by kernel_rfl
 i127 := by kernel_rfl
 i143 := by kernel_rfl
 i145 := by kernel_rfl
 i167 := by kernel_rfl
 i168 := by kernel_rfl
 i171 := by kernel_rfl
 i173 := by kernel_rfl
 i175 := by kernel_rfl
 i210 := by kernel_rfl
 i212 := by kernel_rfl
 i232 := by kernel_rfl
 i233 := by kernel_rfl
 m15 := by kernel_rfl
 m16 := by kernel_rfl
 m17 := by kernel_rfl
 m18 := by kernel_rfl
 m19 := by kernel_rfl
 c0 := by kernel_rfl
 c2 := by kernel_rfl
 c3 := by kernel_rfl
 c4 := by kernel_rfl
 c5 := by kernel_rfl
 c9 := by kernel_rfl
 c20 := by kernel_rfl
 c21 := by kernel_rfl
 c37 := by kernel_rfl
 c46 := by kernel_rfl
 c51 := by kernel_rfl
 c53 := by kernel_rfl
 c75 := by kernel_rfl
 c80 := by kernel_rfl
 c85 := by kernel_rfl
 c127 := by kernel_rfl
 c143 := by kernel_rfl
 c145 := by kernel_rfl
 c167 := by kernel_rfl
 c168 := by kernel_rfl
 c171 := by kernel_rfl
 c173 := by kernel_rfl
 c175 := by kernel_rfl
 c210 := by kernel_rfl
 c212 := by kernel_rfl
 c213 := by kernel_rfl
 c232 := by kernel_rfl
 c233 := by kernel_rfl }
open Go.RowKit in
/-- strconv.ParseInt(s, 10, 64), AT EVERY STRING THAT SPELLS AN int64 ('Lib.parseIntB 64 s.data.toList = .ok v'): v, AND NO ERROR. (LAID: no walk: one application.) -/
theorem Tryz.strconv_ParseInt_10_at64_ok (s : ByteArray) (hmax : s.size ≤ 9223372036854775806) (v : Int) (h : Lib.parseIntB 64 s.data.toList = .ok v) (w : World) :
  Calls Tryz.prog 97 #[.string s, .int .i64 10, .int .i64 64] w fun e w' => e = .returned (.tuple #[.int .i64 v, .nilIface]) ∧ (w' = w ∨ ∃ t, w' = Lib.bytesWorld w 5 t) := Any.strconv_ParseInt_10_at64_ok Tryz.laysC174 s hmax v h w
open Go.RowKit in
/-- strconv.ParseInt(s, 10, 64), AT EVERY STRING THAT IS NO DECIMAL NUMERAL: 0, AND AN ERROR THAT IS NOT nil: a *NumError in a new block N: {Func: "ParseInt", Num: s's bytes, Err: what the variable ErrSyntax holds}. Of what was there nothing has turned. (LAID: no walk: one application.) -/
theorem Tryz.strconv_ParseInt_10_at64_syntax (s : ByteArray) (hlim : s.size ≤ 281474976710656) (h : Lib.parseIntB 64 s.data.toList = Lib.parseIntB 64 []) (ev : Value) (w : World) (hv : w.cell? ⟨1, 0, none⟩ = some ev) (hev : ev = .nilIface ∨ ∃ te pe, ev = .iface te pe) :
  Calls Tryz.prog 97 #[.string s, .int .i64 10, .int .i64 64] w fun e w' => ∃ N, e = .returned (.tuple #[.int .i64 (0), .iface 238 (.pointer (some ⟨N, 0, none⟩))]) ∧ w.heap.size ≤ N ∧ w'.heap[N]? = some (.cells #[.string ⟨#[80, 97, 114, 115, 101, 73, 110, 116]⟩, .string s, ev] 266 (0, 0)) ∧ Below w.heap.size w w' := Any.strconv_ParseInt_10_at64_syntax Tryz.laysC174 s hlim h ev w hv hev
open Go.RowKit in
/-- strconv.ParseInt(s, 10, 64), AT EVERY NUMERAL THAT NO int64 HOLDS: THE GREATEST OR THE LEAST int64, BY THE SIGN ('Lib.intSat 64'), AND AN ERROR THAT IS NOT nil: a *NumError in a new block N: {Func: "ParseInt", Num: s's bytes, Err: what the variable ErrRange holds}. Of what was there nothing has turned. (LAID: no walk: one application.) -/
theorem Tryz.strconv_ParseInt_10_at64_range (s : ByteArray) (hlim : s.size ≤ 281474976710656) (h : Lib.parseIntB 64 s.data.toList = .range) (ev : Value) (w : World) (hv : w.cell? ⟨2, 0, none⟩ = some ev) (hev : ev = .nilIface ∨ ∃ te pe, ev = .iface te pe) :
  Calls Tryz.prog 97 #[.string s, .int .i64 10, .int .i64 64] w fun e w' => ∃ N, e = .returned (.tuple #[.int .i64 (Lib.intSat 64 s.data.toList), .iface 238 (.pointer (some ⟨N, 0, none⟩))]) ∧ w.heap.size ≤ N ∧ w'.heap[N]? = some (.cells #[.string ⟨#[80, 97, 114, 115, 101, 73, 110, 116]⟩, .string s, ev] 266 (0, 0)) ∧ Below w.heap.size w w' := Any.strconv_ParseInt_10_at64_range Tryz.laysC174 s hlim h ev w hv hev
def Tryz.lays99_ren : Go.Shelf.Ren := ⟨fun | 99 => 148 | 206 => 178 | n => n, fun | 9 => 9 | 4 => 4 | 3 => 3 | n => n, fun | n => n⟩
theorem Tryz.lays99 : Go.Proofs.Lays.n99 Tryz.prog Tryz.lays99_ren := {
 mixed := by kernel_rfl
 f99 := Tryz.func148.trans (congrArg some (by kernel_rfl))
 f206 := Tryz.func178.trans (congrArg some (by kernel_rfl))
 t3 := Tryz.underlying3
 a3 := Tryz.isAgg3
 z3 := Tryz.sizeOf3
 v3 := Tryz.zeroValue3
 t4 := Tryz.underlying4
 a4 := Tryz.isAgg4
 z4 := Tryz.sizeOf4
 v4 := Tryz.zeroValue4
 t9 := Tryz.underlying9
 a9 := Tryz.isAgg9
 z9 := Tryz.sizeOf9
 v9 := Tryz.zeroValue9 }
open Go.RowKit Go.Lib in
/-- strings.HasPrefix: "HasPrefix reports whether the string s begins with prefix.": IT RETURNS 'Lib.hasPrefix s prefix'; the world is as it was. (LAID: no walk: one application.) -/
theorem Tryz.strings_HasPrefix (s p : ByteArray) (w : World) :
  Calls Tryz.prog 148 #[.string s, .string p] w fun e w' => e = .returned (.bool (Lib.hasPrefix s.data.toList p.data.toList)) ∧ w' = w := Any.strings_HasPrefix Tryz.lays99 s p w
def Tryz.lays105_ren : Go.Shelf.Ren := ⟨fun | 105 => 127 | 212 => 156 | 99 => 148 | 165 => 157 | 166 => 158 | 170 => 159 | 169 => 160 | 263 => 182 | 264 => 183 | 206 => 178 | 240 => 184 | 241 => 185 | 276 => 201 | 277 => 202 | n => n, fun | 9 => 9 | 3 => 3 | 4 => 4 | 20 => 20 | 0 => 0 | 46 => 118 | 109 => 230 | 5 => 5 | 72 => 234 | 76 => 109 | 51 => 184 | 146 => 259 | 53 => 105 | 148 => 261 | 70 => 232 | 37 => 87 | 75 => 29 | 127 => 263 | 164 => 278 | 80 => 55 | n => n, fun | n => n⟩
theorem Tryz.lays105 : Go.Proofs.Lays.n105 Tryz.prog Tryz.lays105_ren := {
 mixed := by kernel_rfl
 f99 := Tryz.func148.trans (congrArg some (by kernel_rfl))
 f105 := Tryz.func127.trans (congrArg some (by kernel_rfl))
 f165 := Tryz.func157.trans (congrArg some (by kernel_rfl))
 f166 := Tryz.func158.trans (congrArg some (by kernel_rfl))
 f169 := Tryz.func160.trans (congrArg some (by kernel_rfl))
 f170 := Tryz.func159.trans (congrArg some (by kernel_rfl))
 f206 := Tryz.func178.trans (congrArg some (by kernel_rfl))
 f212 := Tryz.func156.trans (congrArg some (by kernel_rfl))
 f240 := Tryz.func184.trans (congrArg some (by kernel_rfl))
 f241 := Tryz.func185.trans (congrArg some (by kernel_rfl))
 f263 := Tryz.func182.trans (congrArg some (by kernel_rfl))
 f264 := Tryz.func183.trans (congrArg some (by kernel_rfl))
 f276 := Tryz.func201.trans (congrArg some (by kernel_rfl))
 f277 := Tryz.func202.trans (congrArg some (by kernel_rfl))
 t0 := Tryz.underlying0
 a0 := Tryz.isAgg0
 z0 := Tryz.sizeOf0
 v0 := Tryz.zeroValue0
 t3 := Tryz.underlying3
 a3 := Tryz.isAgg3
 z3 := Tryz.sizeOf3
 v3 := Tryz.zeroValue3
 t4 := Tryz.underlying4
 a4 := Tryz.isAgg4
 z4 := Tryz.sizeOf4
 v4 := Tryz.zeroValue4
 t5 := Tryz.underlying5
 a5 := Tryz.isAgg5
 z5 := Tryz.sizeOf5
 v5 := Tryz.zeroValue5
 t9 := Tryz.underlying9
 a9 := Tryz.isAgg9
 z9 := Tryz.sizeOf9
 v9 := Tryz.zeroValue9
 t20 := Tryz.underlying20
 a20 := Tryz.isAgg20
 z20 := Tryz.sizeOf20
 v20 := Tryz.zeroValue20
 t37 := Tryz.underlying87
 a37 := Tryz.isAgg87
 z37 := Tryz.sizeOf87
 v37 := Tryz.zeroValue87
 t46 := Tryz.underlying118
 a46 := Tryz.isAgg118
 z46 := Tryz.sizeOf118
 v46 := Tryz.zeroValue118
 t51 := Tryz.underlying184
 a51 := Tryz.isAgg184
 z51 := Tryz.sizeOf184
 v51 := Tryz.zeroValue184
 t53 := Tryz.underlying105
 a53 := Tryz.isAgg105
 z53 := Tryz.sizeOf105
 v53 := Tryz.zeroValue105
 t70 := Tryz.underlying232
 a70 := Tryz.isAgg232
 z70 := Tryz.sizeOf232
 v70 := Tryz.zeroValue232
 t72 := Tryz.underlying234
 a72 := Tryz.isAgg234
 z72 := Tryz.sizeOf234
 v72 := Tryz.zeroValue234
 t75 := Tryz.underlying29
 a75 := Tryz.isAgg29
 z75 := Tryz.sizeOf29
 v75 := Tryz.zeroValue29
 t76 := Tryz.underlying109
 a76 := Tryz.isAgg109
 z76 := Tryz.sizeOf109
 v76 := Tryz.zeroValue109
 t109 := Tryz.underlying230
 a109 := Tryz.isAgg230
 z109 := Tryz.sizeOf230
 v109 := Tryz.zeroValue230
 t127 := Tryz.underlying263
 a127 := Tryz.isAgg263
 z127 := Tryz.sizeOf263
 v127 := Tryz.zeroValue263
 t146 := Tryz.underlying259
 a146 := Tryz.isAgg259
 z146 := Tryz.sizeOf259
 v146 := Tryz.zeroValue259
 t148 := Tryz.underlying261
 a148 := Tryz.isAgg261
 z148 := Tryz.sizeOf261
 v148 := Tryz.zeroValue261
 t164 := Tryz.underlying278
 a164 := Tryz.isAgg278
 z164 := Tryz.sizeOf278
 v164 := Tryz.zeroValue278 }
theorem Tryz.Builder_Extra_105 : Builder.Extra Tryz.prog Tryz.lays105_ren := {
 sizeBuilder := by kernel_rfl
 liesBuilder := by kernel_rfl
 t5 := Tryz.underlying5
 a5 := Tryz.isAgg5
 z5 := Tryz.sizeOf5
 v5 := Tryz.zeroValue5
 infoByte := by kernel_rfl
 cellsByte := by kernel_rfl
 sizeByte := by kernel_rfl
 neB5 := by decide }
open Go.RowKit Go.Lib in
/-- **strings.Repeat: count ≥ 0, the result within one allocation: count copies of s.** (LAID: no walk: one application.) -/
theorem Tryz.strings_Repeat (s : ByteArray) (c : Nat) (w : World) (hc : c ≤ 9223372036854775807) (hlen : s.size * c ≤ 140737488355328) :
  Calls Tryz.prog 127 #[.string s, .int .i64 c] w fun e w' => e = .returned (.string ⟨(Lib.repeatL s.data.toList c).toArray⟩) ∧ Below w.heap.size w w' := Any.strings_Repeat Tryz.lays105 Tryz.Builder_Extra_105 s c w hc hlen
def Tryz.lays260_ren : Go.Shelf.Ren := ⟨fun | 260 => 196 | n => n, fun | 9 => 9 | 21 => 21 | 3 => 3 | 4 => 4 | 5 => 5 | 119 => 285 | 0 => 0 | 46 => 118 | 139 => 288 | 138 => 287 | n => n, fun | 3 => 5 | 4 => 6 | n => n⟩
theorem Tryz.lays260 : Go.Proofs.Lays.n260 Tryz.prog Tryz.lays260_ren := {
 mixed := by kernel_rfl
 f260 := Tryz.func196.trans (congrArg some (by kernel_rfl))
 t0 := Tryz.underlying0
 a0 := Tryz.isAgg0
 z0 := Tryz.sizeOf0
 v0 := Tryz.zeroValue0
 t3 := Tryz.underlying3
 a3 := Tryz.isAgg3
 z3 := Tryz.sizeOf3
 v3 := Tryz.zeroValue3
 t4 := Tryz.underlying4
 a4 := Tryz.isAgg4
 z4 := Tryz.sizeOf4
 v4 := Tryz.zeroValue4
 t5 := Tryz.underlying5
 a5 := Tryz.isAgg5
 z5 := Tryz.sizeOf5
 v5 := Tryz.zeroValue5
 t9 := Tryz.underlying9
 a9 := Tryz.isAgg9
 z9 := Tryz.sizeOf9
 v9 := Tryz.zeroValue9
 t21 := Tryz.underlying21
 a21 := Tryz.isAgg21
 z21 := Tryz.sizeOf21
 v21 := Tryz.zeroValue21
 t46 := Tryz.underlying118
 a46 := Tryz.isAgg118
 z46 := Tryz.sizeOf118
 v46 := Tryz.zeroValue118
 t119 := Tryz.underlying285
 a119 := Tryz.isAgg285
 z119 := Tryz.sizeOf285
 t138 := Tryz.underlying287
 a138 := Tryz.isAgg287
 z138 := Tryz.sizeOf287
 v138 := Tryz.zeroValue287
 t139 := Tryz.underlying288
 a139 := Tryz.isAgg288
 z139 := Tryz.sizeOf288
 v139 := Tryz.zeroValue288
 g3 := by kernel_rfl
 g4 := by kernel_rfl }
def Tryz.lays109_ren : Go.Shelf.Ren := ⟨fun | 109 => 131 | n => n, fun | 31 => 25 | 9 => 9 | 3 => 3 | 0 => 0 | 4 => 4 | n => n, fun | n => n⟩
theorem Tryz.lays109 : Go.Proofs.Lays.n109 Tryz.prog Tryz.lays109_ren := {
 mixed := by kernel_rfl
 f109 := Tryz.func131.trans (congrArg some (by kernel_rfl))
 t0 := Tryz.underlying0
 a0 := Tryz.isAgg0
 z0 := Tryz.sizeOf0
 v0 := Tryz.zeroValue0
 t3 := Tryz.underlying3
 a3 := Tryz.isAgg3
 z3 := Tryz.sizeOf3
 v3 := Tryz.zeroValue3
 t4 := Tryz.underlying4
 a4 := Tryz.isAgg4
 z4 := Tryz.sizeOf4
 v4 := Tryz.zeroValue4
 t9 := Tryz.underlying9
 a9 := Tryz.isAgg9
 z9 := Tryz.sizeOf9
 v9 := Tryz.zeroValue9
 t31 := Tryz.underlying25
 a31 := Tryz.isAgg25
 z31 := Tryz.sizeOf25
 v31 := Tryz.zeroValue25 }
open Go.Lib in
/-- slices.Index at []string: "Index returns the index of the first occurrence of v in s, or -1 if not present.": IT RETURNS 'Lib.idxOfS (the elements) v'; the world is as it was. 'zs': what the cells behind the slice's address hold (its spare capacity too, if you have it); 'zs.take n': its elements. (LAID: no walk: one application.) -/
theorem Tryz.slices_Index_string (b off n c : Nat) (zs : List ByteArray) (x : ByteArray) (w : World) (hz : n ≤ zs.length) (hbig : n ≤ 9223372036854775807) (hc : ∀ j, j < zs.length → w.cell? ⟨b, off + j, none⟩ = some (.string (zs.getD j ByteArray.empty))) :
  Calls Tryz.prog 131 #[.slice (some ⟨b, off, none⟩) n c, .string x] w fun e w' => e = .returned (.int .i64 (Lib.idxOfS (zs.take n) x)) ∧ w' = w := Any.slices_Index_string Tryz.lays109 b off n c zs x w hz hbig hc
open Go.Lib in
/-- The same at a slice of length 0, a nil one too: no cell is known, none is asked for. (LAID: no walk: one application.) -/
theorem Tryz.slices_Index_string_empty (a : Option Addr) (c : Nat) (x : ByteArray) (w : World) :
  Calls Tryz.prog 131 #[.slice a 0 c, .string x] w fun e w' => e = .returned (.int .i64 (Lib.idxOfS [] x)) ∧ w' = w := Any.slices_Index_string_empty Tryz.lays109 a c x w
end Go.Proofs
