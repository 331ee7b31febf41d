import Derived.Test.YtoimjnmhinfbkaaGreatDoorR
import Derived.OrdersHeld
import Derived.OrdersIn
import Derived.RangeFuncNested
import Derived.RangeFuncBound
import Derived.RangeFuncCalls
import Derived.RangeFuncLeaves
import Derived.RangeFuncBox
import Derived.Test.YtoimjnmhinfbkaaGreatDoorD
import Derived.Shelf.Abstract
import Derived.Shelf.RegionOpen
import Derived.OwnWalkIn
import Derived.TacticsInMore
import Derived.LoopNIn
import Derived.LoopIn
import Derived.Test.YtoimjnmhinfbkaaGreatDoorI
namespace Go.Proofs.YtoimjnmhinfbkaaGreatDoor
open Go.RowKit
set_option maxRecDepth 100000

/-- what abides new blocks, and a turn of the two blocks that a range over a function lays first (B: where the loop begins). -/
def Abid (B : Nat) (p : World → Prop) : Prop := ∀ W W' row, p W → W.grownBy W' row → (∀ r, row = some r → r = B ∨ r = B + 1) → p W'

theorem Abid.put {B : Nat} {p : World → Prop} (h : Abid B p) {W : World} {l : Nat} (o' : Obj) (hs : p W) (hB : l = B ∨ l = B + 1) : p (W.putObj l o') :=
  h W _ (some l) hs (grownBy_putObj' W l o') (fun r e => by cases e; exact hB)
theorem Abid.alloc {B : Nat} {p : World → Prop} (h : Abid B p) {W : World} (o : Obj) (hs : p W) : p (W.alloc o) :=
  h W _ none hs (World.grownBy_alloc W o none) (fun r e => by cases e)

/-- a range over a function whose rounds are told a fact T of what they are handed, in the world in which they are handed it; no round leaves the loop. -/
theorem range_told {α : Type} {P : Program} {n : Nat} (h1 : 1 ≤ n) {g : Operand} {ps : Array Tmp} {assign body : Code} {Q : Exit → Act → World → Prop} {a : Act} {w : World}
    {gf : Nat} {lb : Array Value} (hg : a.eval g = .func (.func gf) #[] lb) (eg : ∀ args w, (callFunc gf args).run P w = .ok (.enter gf args) w)
    {encs : α → Array Value} (hps : ∀ x, (encs x).size = ps.size) (T : List α → α → World → Prop) (I : List α → World → Prop) (S : List α → Prop) (Kp : World → World → Prop)
    (hKt : ∀ {A B C : World}, Kp A B → Kp B C → Kp A C) (hKb : ∀ (W : World) (o' : Obj), Kp W (W.putObj (w.heap.size + 1) o'))
    (hI : ∀ s, Abid w.heap.size (I s)) (hN : ∀ s W W', I s W → Below W.heap.size W W' → I s W') (h0 : I [] w)
    (hseq : ∀ (l : Nat) (J : List α → World → Prop) (W : World), Below w.heap.size w W → (∀ s W W', J s W → Below W.heap.size W W' → J s W') → (∀ s W, J s W → I s W ∧ w.heap.size + 1 < W.heap.size) →
      (∀ pre x W1, J pre W1 → T pre x W1 → YieldAt Fence.wide (n - 1 - 1) P l (encs x) W1 fun e W' => e = .returned (.bool true) ∧ J (pre ++ [x]) W' ∧ Kp W1 W') → J [] W →
      CallsIn Fence.wide (n - 1) P gf (#[.func (.yield l) #[] #[]] ++ lb) W fun e W' => (∃ v, e = .returned v) ∧ ∃ xs, S xs ∧ J xs W')
    (U : List α → α → Act → World → Prop) (hU : ∀ s x a', Abid w.heap.size (U s x a'))
    (hassign : ∀ (l : Nat) (pre : List α) (x : α) (W : World) (K : Act → World → Prop), I pre W → T pre x W → w.heap.size + 1 < W.heap.size → (∀ a' W', KeepsOthers W W' → Kp W W' → U pre x a' W' → K a' W') →
      assign.wpIn (Fence.wide.inRound l) (n - 1 - 1) P (Exit.then K (fun _ _ _ => False)) { tmps := (ps.zip (encs x)).foldl (fun t (p, v) => t.setIfInBounds p v) a.tmps, defers := [] } W)
    (hbody : ∀ (l : Nat) (pre : List α) (x : α) (a' : Act) (W : World), U pre x a' W → body.wpIn (Fence.wide.inRound l) (n - 1 - 1) P (ownPostK Kp I (fun _ _ _ => False) (pre ++ [x]) W) a' W)
    (hdone : ∀ (xs : List α) (W : World), S xs → I xs W → W.heap[w.heap.size]? = some (.deferred (some [])) → Q .normal { a with defers := { target := .collected w.heap.size, args := #[] } :: a.defers } W) :
    (Code.rangeFunc g ps assign body).wpIn Fence.wide n P Q a w := by
  refine wpIn_rangeFunc ?_
  intro fn hfn
  rw [show Fence.wide.round = none from rfl]
  obtain ⟨rec, hrec⟩ : ∃ rec : LoopState → Option Code → Loop, rec = fun st pe => { state := st, pending := pe, fn, tmps := a.tmps, params := ps, assign, body, defers := w.heap.size } := ⟨_, rfl⟩
  obtain ⟨W1, hW1⟩ : ∃ W1, (w.alloc (.deferred (some []))).alloc (.loop (rec .ready none)) = W1 := ⟨_, rfl⟩
  have hL1 : W1.heap[w.heap.size + 1]? = some (.loop (rec .ready none)) := by
    rw [← hW1]; have := World.alloc_heap_new (w.alloc (.deferred (some []))) (.loop (rec .ready none)); rwa [World.size_alloc] at this
  have hK1 : W1.heap[w.heap.size]? = some (.deferred (some [])) := by
    rw [← hW1]; exact (Below.heap_alloc _ _ _ (by simp)).trans (World.alloc_heap_new w _)
  have hI1 : I [] W1 := by rw [← hW1]; exact (hI _).alloc _ ((hI _).alloc _ h0)
  have hb1 : Below w.heap.size w W1 := by
    rw [← hW1]; exact ((Below.refl _ w).alloc (Nat.le_refl _) _).alloc (by simp) _
  refine ⟨w.heap.size + 1, [{ target := .collected w.heap.size, args := #[] }], W1, { target := .fn (.func gf) lb, args := #[.func (.yield (w.heap.size + 1)) #[] #[]] }, W1, gf,
    #[.func (.yield (w.heap.size + 1)) #[] #[]] ++ lb, W1, ?_, ?_, ?_, ?_, fun _ => h1, ?_⟩
  · rw [← hW1, hrec]; exact run_enterLoop_outer _ _ _ _ _
  · simp only [resolve, hg]
    simp [go_sem]
  · intro f' hf'; trivial
  · simp [invoke, go_sem, eg]
  · refine (hseq (w.heap.size + 1)
      (fun pre W => I pre W ∧ W.heap[w.heap.size + 1]? = some (.loop (rec .ready none)) ∧ W.heap[w.heap.size]? = some (.deferred (some [])))
      W1 hb1
      (fun s A B hs hb => ⟨hN s A B hs.1 hb, (hb.block _ (Array.getElem?_eq_some_iff.1 hs.2.1).1).trans hs.2.1, (hb.block _ (Array.getElem?_eq_some_iff.1 hs.2.2).1).trans hs.2.2⟩)
      (fun s W hs => ⟨hs.1, (Array.getElem?_eq_some_iff.1 hs.2.1).1⟩)
      ?_ ⟨hI1, hL1, hK1⟩).mono ?_
    · rintro pre x W ⟨hi, hl, hk⟩ ht
      have hy := run_yield (P := P) (args := encs x) hl (by rw [hrec]; exact hps x)
      rw [hrec] at hy
      refine ⟨fn, _, assign, body, hy, roundIn_of_wpIn hfn (hassign _ pre x W _ hi ht (Array.getElem?_eq_some_iff.1 hl).1 ?_)⟩
      intro a' Wa hka hkpa hu
      have hla := hka.same _ _ hl rfl
      have hkd := hka.same _ _ hk rfl
      have hlt : w.heap.size + 1 < Wa.heap.size := (Array.getElem?_eq_some_iff.1 hla).1
      refine ⟨_, run_beginRound hla (by rw [hrec]), ?_⟩
      have hl2 : (Wa.putObj (w.heap.size + 1) (.loop { rec .ready none with state := .busy })).heap[w.heap.size + 1]? = some (.loop { rec .ready none with state := .busy }) := World.putObj_heap_same hlt
      have hk2 : (Wa.putObj (w.heap.size + 1) (.loop { rec .ready none with state := .busy })).heap[w.heap.size]? = some (.deferred (some [])) := (World.putObj_heap_other (by omega)).trans hkd
      have hw2 : Kp W (Wa.putObj (w.heap.size + 1) (.loop { rec .ready none with state := .busy })) := hKt hkpa (hKb _ _)
      refine wpIn_mono (hbody _ pre x a' _ ((hU _ _ _).put _ hu (.inr rfl))) ?_
      rintro e a3 W3 hp
      cases e with
      | normal =>
        obtain ⟨hk3, hkp3, hi3⟩ := hp
        have hl3 := hk3.same _ _ hl2 rfl
        have hr := run_endRound (P := P) none hl3
        have hl4 := World.putObj_heap_same (w := W3) (o := .loop (rec .ready none)) (Array.getElem?_eq_some_iff.1 hl3).1
        have hk4 : (W3.putObj (w.heap.size + 1) (.loop (rec .ready none))).heap[w.heap.size]? = some (.deferred (some [])) := (World.putObj_heap_other (by omega)).trans (hk3.same _ _ hk2 rfl)
        rw [hrec] at hr
        refine ⟨_, _, hr, rfl, ⟨(hI _).put _ hi3 (.inr rfl), ?_, ?_⟩, hKt (hKt hw2 hkp3) (hKb _ _)⟩
        · rw [hrec] at hl4 ⊢; exact hl4
        · rw [hrec] at hk4; exact hk4
      | ret => exact hp.2.elim
      | exit id => exact hp.2.elim
      | goto t => exact hp.2.elim
      | panic ch => exact hp.elim
      | outgrown => exact hp.elim
    · rintro e W2 ⟨⟨v, rfl⟩, xs, hS, hi, hl, hk⟩
      exact ⟨none, _, by have := run_endLoop (P := P) hl (by rw [hrec]; simp); rw [hrec] at this; exact this, hdone xs _ hS ((hI _).put _ hi (.inr rfl)) ((World.putObj_heap_other (by omega)).trans hk)⟩

/-! ### a region that draws its order, within a round -/
def noDefer (o : Oper) : Bool := match o.op with
  | .defer _ => false
  | _ => true

theorem noDefer_ne {o : Oper} (h : noDefer o = true) (c : Call) : o.op ≠ .defer c := by
  intro e; simp [noDefer, e] at h

theorem rowsIn_of_rows {n l : Nat} {P : Program} {row : String} {args : Array Value} {w : World} {R : Value → World → Prop} (h : Rows P row args w R) : RowsIn (Fence.wide.inRound l) n P row args w R :=
  fun c cs _ => let ⟨v, w', r, s⟩ := h c cs; ⟨v, w', r, stepsIn_wide.2 s⟩

theorem opIn_of_op {n l : Nat} {P : Program} {ops : Array Oper} {Q : Exit → Act → World → Prop} {i : Nat} {K : Act → World → Prop} {a : Act} {w : World} (hd : ∀ o, ops[i]? = some o → noDefer o = true) (hno : ¬ LetsOut Q)
    (h : wpOp P ops Q i K a w) : wpOpIn (Fence.wide.inRound l) n P ops Q i K a w := by
  unfold wpOp at h
  unfold wpOpIn
  split
  · rename_i ho
    simpa [ho] using h
  · rename_i o ho
    simp only [ho] at h
    split
    · rename_i hw
      rw [if_pos hw] at h
      rcases h with h | ⟨_, h⟩
      · refine ⟨fun f _ => trivial, ?_⟩
        rw [Oper.semAt_eq _ _ _ (noDefer_ne (hd o ho))]
        unfold Oper.wp at h
        generalize (execOp a.eval o).run P w = r at *
        cases r with
        | ok x w' =>
          cases x <;> simp only [Oper.upon, Oper.uponIn] at h ⊢ <;> first | exact h | exact ⟨(fun hh => by cases hh), callsIn_wide.2 h⟩ | exact ⟨(fun hh => by cases hh), rowsIn_of_rows h⟩
        | halt x w' => cases x <;> simp only [Oper.upon, Oper.uponIn] at h ⊢ <;> exact h
      · exact absurd h hno
    · rename_i hw
      rw [if_neg hw] at h
      exact ⟨fun f _ => trivial, h⟩

theorem anyIn_of_any {n l : Nat} {P : Program} {md : Region.Mode} {ops : Array Oper} {Q : Exit → Act → World → Prop} (hd : ∀ (i : Nat) (o : Oper), ops[i]? = some o → noDefer o = true) (hno : ¬ LetsOut Q) :
    ∀ (fuel : Nat) (listed : Array Bool) (a : Act) (w : World), wpAny P md ops Q fuel listed a w → wpAnyIn (Fence.wide.inRound l) n P md ops Q fuel listed a w
  | 0, _, _, _, h => h
  | fuel + 1, _, _, _, h => ⟨h.1, fun i hi => wpOpIn_mono (fun _ _ h' => anyIn_of_any hd hno fuel _ _ _ h') (opIn_of_op (hd i) hno (h.2 i hi))⟩

theorem region_in_round {n l id : Nat} {P : Program} {ops : Array Oper} {Q : Exit → Act → World → Prop} {a : Act} {w : World} (S : World → Prop) (hm : P.follows .mixedOrders = true) (hd : ops.all noDefer = true) (hno : ¬ LetsOut Q)
    (h : wpAnyH P .any ops Q S ops.size (Array.replicate ops.size false) a w.drew) : (Code.region id ops true).wpIn (Fence.wide.inRound l) n P Q a w :=
  wpIn_region_any hm (anyIn_of_any (fun i o ho => by
    rw [Array.all_eq_true] at hd
    obtain ⟨hi, rfl⟩ := Array.getElem?_eq_some_iff.1 ho
    exact hd i hi) hno _ _ _ _ (wpAny_of_held _ _ _ _ h))

end Go.Proofs.YtoimjnmhinfbkaaGreatDoor

namespace Go.Proofs.YtoimjnmhinfbkaaGreatDoor
open Go.RowKit Go.Shelf
set_option maxRecDepth 100000
attribute [local go_sem] Oper.semAt_some

/-- what a round of value.All is handed: a name, a value's five cells. -/
structure Yl where
  name : ByteArray
  k : Int
  t : Bool
  x : ByteArray
  A : Option Addr
  n : Nat
  ca : Nat
  B : Option Addr
  m : Nat
  cb : Nat

def Yl.cells (y : Yl) : List Value := [.int .i64 y.k, .bool y.t, .string y.x, .slice y.A y.n y.ca, .slice y.B y.m y.cb]
def Yl.encs (y : Yl) : Array Value := #[.string y.name, .agg #[.int .i64 y.k, .bool y.t, .string y.x, .slice y.A y.n y.ca, .slice y.B y.m y.cb]]

/-- what a round is told of it: it is the next name; a copy of the next value, in new blocks. -/
def Told (B : Nat) (I : List Yl → World → Prop) (l : List V) (ns : List ByteArray) (pre : List Yl) (y : Yl) (W : World) : Prop :=
  ns[pre.length]? = some y.name ∧ ∃ v Wc, l[pre.length]? = some v ∧ I pre Wc ∧ B + 1 < Wc.heap.size ∧ Below Wc.heap.size Wc W ∧ v.Rep W (fun b => Wc.heap.size ≤ b ∧ b < W.heap.size) y.cells

theorem Told.of {B : Nat} {I : List Yl → World → Prop} {l : List V} {ns : List ByteArray} {pre : List Yl} {Wc W : World} {cs : List Value} (j : Nat) (hj : pre.length = j) (h1 : j < ns.length) (h2 : j < l.length) (hI : I pre Wc) (hB : B + 1 < Wc.heap.size)
    (hb : Below Wc.heap.size Wc W) (hr : (l[j]).Rep W (fun b => Wc.heap.size ≤ b ∧ b < W.heap.size) cs) (y : Yl) (hn : y.name = ns[j]) (hc : y.cells = cs) : Told B I l ns pre y W := by
  subst hj
  exact ⟨by rw [hn]; exact List.getElem?_eq_getElem h1, _, Wc, List.getElem?_eq_getElem h2, hI, hB, hb, by rw [hc]; exact hr⟩

set_option maxHeartbeats 2000000 in
/-- value.All's function, over whatever loop body: as many rounds as there are names and values. -/
theorem all1_any (lp : Nat) (w : World) (S : Nat → Prop) (t : Bool) (x : ByteArray) (A : Option Addr) (l : List V) (ca : Nat) (Bn : Option Addr) (ns : List ByteArray) (cb : Nat) (Bv B : Nat) (P : Nat → Prop)
    (hS : Strs w S Bn ns) (hL : l = [] ∨ ∃ b o, A = some ⟨b, o, none⟩ ∧ S b ∧ V.Reps w S b o l) (hlb : ∀ v ∈ l, v.bulk ≤ 4194304) (hll : l.length ≤ 4194304)
    (n : Nat) (hmin : n = min ns.length l.length) (I J : List Yl → World → Prop) (hJ : ∀ s W W', J s W → Below W.heap.size W W' → J s W') (hJI : ∀ s W, J s W → I s W ∧ B + 1 < W.heap.size)
    (hY : ∀ pre y W1, J pre W1 → Told B I l ns pre y W1 → YieldAt Fence.wide 1 Tryz.prog lp y.encs W1 fun e W' => e = .returned (.bool true) ∧ J (pre ++ [y]) W' ∧ Also P W1 W')
    (W : World) (hW : ∀ b, b < w.heap.size → W.heap[b]? = w.heap[b]?) (hsz : w.heap.size ≤ W.heap.size) (hP : ∀ b, b < w.heap.size ∨ b = Bv → P b)
    (hBv : W.heap[Bv]? = some (.cells #[.int .i64 5, .bool t, .string x, .slice A l.length ca, .slice Bn ns.length cb] 27 (0, 0))) (h0 : J [] W) :
    CallsIn Fence.wide 2 Tryz.prog 130 #[.func (.yield lp) #[] #[], .pointer (some ⟨Bv, 0, none⟩)] W fun e W' => (∃ v, e = .returned v) ∧ ∃ ys : List Yl, ys.length = n ∧ J ys W' := by
  have HS := Lib.hid hS
  have HL := Lib.hid hL
  have HLB := Lib.hid hlb
  have HJ := Lib.hid hJ
  have HJI := Lib.hid hJI
  have HY := Lib.hid hY
  have HW := Lib.hid hW
  have HP := Lib.hid hP
  have HMIN := Lib.hid hmin
  have HBV := Lib.hid hBv
  have hm := fun o => cell_of_row W Bv o _ 27 (0, 0) hBv
  have hvlt : Bv < W.heap.size := (Array.getElem?_eq_some_iff.1 hBv).1
  have m3 := hm 3
  have m4 := hm 4
  simp at m3 m4
  clear hS hL hlb hJ hJI hY hW hP hmin hBv hm
  refine callsIn_of_wp Tryz.func130 rfl trivial ?_ rfl
  simp only [Tryz.ntmps130, List.size_toArray, List.length_cons, List.length_nil, Nat.reduceAdd, Nat.reduceSub, Array.replicate_succ, Array.replicate_zero, List.push_toArray, List.append_toArray, List.nil_append, List.cons_append]
  gi_wp2
  gi_loopw [8] (fun i wr => ∃ (j : Nat) (pre : List Yl), i = .int .i64 j ∧ j ≤ n ∧ pre.length = j ∧ J pre wr ∧ Also P W wr) (fun i _ => ns.length - (intOf i).toNat)
  case atStart => exact ⟨0, [], rfl, Nat.zero_le _, rfl, h0, Also.refl _ _⟩
  case round =>
    obtain ⟨j, pre, rfl, hjn, hpl, hJs, hal⟩ := hrel
    have HPL := Lib.hid hpl
    have HJS := Lib.hid hJs
    have HAL := Lib.hid hal
    have hbv : wr.heap[Bv]? = some (.cells #[.int .i64 5, .bool t, .string x, .slice A l.length ca, .slice Bn ns.length cb] 27 (0, 0)) := (hal.block Bv (HP.out _ (.inr rfl)) hvlt).trans HBV.out
    have hm := fun o => cell_of_row wr Bv o _ 27 (0, 0) hbv
    have n0 := hm 0
    have n3 := hm 3
    simp at n0 n3
    have hj0 : (0 : Int) ≤ (j : Int) := Int.natCast_nonneg _
    have keep : ∀ b, b < w.heap.size → wr.heap[b]? = w.heap[b]? := fun b hb => (hal.block b (HP.out _ (.inl hb)) (by omega)).trans (HW.out b hb)
    have KEEP := Lib.hid keep
    clear hpl hJs hal hbv hm keep m3 m4
    by_cases hlt1 : j < ns.length
    · have hj1 : (j : Int) < (ns.length : Int) := by omega
      obtain ⟨b2, o2, rfl, -, hbl2, hc2⟩ := HS.out.cell j hlt1
      have en : wr.cell? ⟨b2, o2 + j, none⟩ = some (.string ns[j]) := (cell_of_heap (KEEP.out b2 hbl2)).trans (hc2 j hlt1)
      clear hc2
      by_cases hlt2 : j < l.length
      · have hj2 : (j : Int) < (l.length : Int) := by omega
        have hj3 : ¬ (l.length : Int) ≤ (j : Int) := by omega
        obtain ⟨b, o, rfl, hSb, hr⟩ := HL.out.resolve_left (by rintro rfl; simp at hlt2)
        obtain ⟨cs, hr0, hv⟩ := hr.get j hlt2
        have hbl : b < w.heap.size := hr0.lt (by have := hv.len; rintro rfl; simp at this)
        obtain ⟨A3, ca3, B3, cb3, rfl, -⟩ := hv.open
        have hr1 := hr0.agree (KEEP.out b hbl)
        have e0 := hr1 0 (by simp)
        have e1 := hr1 1 (by simp)
        have e2 := hr1 2 (by simp)
        have e3 := hr1 3 (by simp)
        have e4 := hr1 4 (by simp)
        simp at e0 e1 e2 e3 e4
        rw [Nat.mul_comm] at e0 e1 e2 e3 e4
        have HV := Lib.hid hv
        clear hr hr0 hr1 hv
        gi_wp2_with fail
        (refine ⟨trivial, ?_⟩; gi_at_call 50; refine (callsIn_wide.2 (copy_any l[j] [.int .i64 (l[j]).kind, .bool (l[j]).tr, .string (l[j]).text, .slice A3 (l[j]).list.length ca3, .slice B3 (l[j]).names.length cb3] wr S (HLB.out _ (List.getElem_mem hlt2)) (V.Rep.agree (w' := wr) (fun b hb hlt => ⟨KEEP.out b hlt, hb⟩) _ HV.out))).mono ?_)
        rintro e w1 ⟨cs1, rfl, hrep1, hb1⟩
        have HREP := Lib.hid hrep1
        obtain ⟨A4, ca4, B4, cb4, rfl, -⟩ := hrep1.open
        have HJ1 := Lib.hid (HJ.out _ _ _ HJS.out hb1)
        have hji := HJI.out _ _ HJS.out
        obtain ⟨fn, tmps, assign, body, hy, hR⟩ := HY.out pre ⟨ns[j], (l[j]).kind, (l[j]).tr, (l[j]).text, A4, (l[j]).list.length, ca4, B4, (l[j]).names.length, cb4⟩ w1 HJ1.out
          (Told.of j HPL.out hlt1 hlt2 hji.1 hji.2 hb1 HREP.out _ rfl rfl)
        dsimp only [Yl.encs] at hy
        have HB1 := Lib.hid hb1
        clear hrep1 hji hb1
        gi_wp2
        refine hR.mono ?_
        rintro e W3 ⟨rfl, hJ3, hk3⟩
        have HJ3 := Lib.hid hJ3
        have HK3 := Lib.hid hk3
        clear hJ3 hk3 hR hy
        gi_wp2
        go_roundw
        case rel => exact ⟨j + 1, _, by go_num, by have := HMIN.out; omega, by rw [List.length_append, HPL.out]; rfl, HJ3.out, (HAL.out.below HB1.out (Nat.le_refl _)).trans HK3.out⟩
        case measure => simp [intOf]; omega
      · have hj3 : (l.length : Int) ≤ (j : Int) := by omega
        gi_wp2
        refine bodyPost_ret (results_none rfl _ _ _) rfl ?_
        exact ⟨⟨_, rfl⟩, pre, by have := HMIN.out; rw [HPL.out]; omega, HJS.out⟩
    · have hj3 : ¬ (j : Int) < (ns.length : Int) := by omega
      gi_wp2
      go_end0
      exact ⟨⟨_, rfl⟩, pre, by have := HMIN.out; rw [HPL.out]; omega, HJS.out⟩

end Go.Proofs.YtoimjnmhinfbkaaGreatDoor

namespace Go.Proofs.YtoimjnmhinfbkaaGreatDoor
open Go.RowKit Go.Shelf
set_option maxRecDepth 100000

def ylook (p : ByteArray) (y : Yl) : List Value := y.cells ++ [.string (fieldPlace p y.name)]
def ylooks (p : ByteArray) (pre : List Yl) : List Value := pre.flatMap (ylook p)

theorem ylooks_length (p : ByteArray) (pre : List Yl) : (ylooks p pre).length = pre.length * 6 := by
  induction pre with
  | nil => rfl
  | cons y pre ih =>
    have h : ylooks p (y :: pre) = ylook p y ++ ylooks p pre := rfl
    rw [h, List.length_append, ih, List.length_cons]
    simp [ylook, Yl.cells]; omega

theorem ylooks_snoc (p : ByteArray) (pre : List Yl) (y : Yl) : ylooks p (pre ++ [y]) = ylooks p pre ++ ylook p y := by
  simp [ylooks]

theorem ylooks_at (p : ByteArray) : ∀ (pre : List Yl) (i : Nat), ∀ hi : i < pre.length, ((ylooks p pre).drop (6 * i)).take 6 = ylook p pre[i] := by
  intro pre
  induction pre with
  | nil => intro i hi; simp at hi
  | cons y pre ih =>
    intro i hi
    have h : ylooks p (y :: pre) = ylook p y ++ ylooks p pre := rfl
    have hl : (ylook p y).length = 6 := rfl
    rw [h]
    cases i with
    | zero => rw [Nat.mul_zero, List.drop_zero, ← hl, List.take_left]; rfl
    | succ i =>
      rw [show 6 * (i + 1) = (ylook p y).length + 6 * i from by omega, ← List.drop_drop, List.drop_left, ih i (by simpa using hi)]
      rfl

/-- what holds between two rounds of Fields' loop: w: where the call begins; B: the heap's size where the loop begins. -/
def FieldsU (w : World) (l : List V) (ns : List ByteArray) (p : ByteArray) (lc vc : Array Value) (O Bv B : Nat) (u : Value) (pre : List Yl) (W : World) : Prop :=
  Below w.heap.size w W ∧ W.heap[w.heap.size]? = some (.cells lc 32 (0, 0)) ∧ W.heap[Bv]? = some (.cells vc 27 (0, 0)) ∧ W.heap[O]? = some (.cells #[u] 102 (0, 0)) ∧
    W.ownsRow (B + 2) 32 6 u pre.length (ylooks p pre) ∧
    ∀ i, ∀ hi : i < pre.length, ns[i]? = some pre[i].name ∧ ∃ v, l[i]? = some v ∧ v.Rep W (fun b => B + 2 ≤ b ∧ b < W.heap.size ∧ some b ≠ u.ownBlock) pre[i].cells

def FieldsI (w : World) (l : List V) (ns : List ByteArray) (p : ByteArray) (lc vc : Array Value) (O Bv B : Nat) (pre : List Yl) (W : World) : Prop :=
  ∃ u, FieldsU w l ns p lc vc O Bv B u pre W

theorem FieldsU.carry {w : World} {l : List V} {ns : List ByteArray} {p : ByteArray} {lc vc : Array Value} {O Bv B : Nat} {u : Value} {pre : List Yl} {W W' : World}
    (h : FieldsU w l ns p lc vc O Bv B u pre W) (hB : w.heap.size < B) (hO : O < B) (hBv : Bv < B) (hb : Below w.heap.size W W')
    (hk : ∀ b, b < W.heap.size → b ≠ B → b ≠ B + 1 → W'.heap[b]? = W.heap[b]?) : FieldsU w l ns p lc vc O Bv B u pre W' := by
  obtain ⟨h1, h2, h3, h4, h5, h6⟩ := h
  have lt : ∀ {b : Nat} {o : Obj}, W.heap[b]? = some o → b < W.heap.size := fun h => (Array.getElem?_eq_some_iff.1 h).1
  refine ⟨h1.trans hb, ?_, ?_, ?_, ?_, ?_⟩
  · rw [hk _ (lt h2) (by omega) (by omega)]; exact h2
  · rw [hk _ (lt h3) (by omega) (by omega)]; exact h3
  · rw [hk _ (lt h4) (by omega) (by omega)]; exact h4
  · obtain ⟨h7, h8⟩ := h5
    refine ⟨h7, h8.imp id ?_⟩
    rintro ⟨g, cap, cur, e1, e2, e3, e4⟩
    exact ⟨g, cap, cur, e1, e2, (hk g (lt e3) (by omega) (by omega)).trans e3, e4⟩
  · intro i hi
    obtain ⟨h7, v, h8, h9⟩ := h6 i hi
    refine ⟨h7, v, h8, h9.agree fun b hb' hlt => ⟨hk b hlt (by omega) (by omega), hb'.1, ?_, hb'.2.2⟩⟩
    have := hb.size
    omega

theorem FieldsI.abid {w : World} {l : List V} {ns : List ByteArray} {p : ByteArray} {lc vc : Array Value} {O Bv B : Nat} (hB : w.heap.size < B) (hO : O < B) (hBv : Bv < B) (pre : List Yl) :
    Abid B (FieldsI w l ns p lc vc O Bv B pre) := by
  rintro W W' row ⟨u, h⟩ hg hr
  have h1 := h.1
  refine ⟨u, h.carry hB hO hBv ((Below.refl w.heap.size W).grown hg h1.size (fun k e => by have := hr k e; omega)) (fun b hb hb1 hb2 => hg.block b hb (fun e => ?_))⟩
  have := hr b e.symm
  omega

theorem FieldsI.below {w : World} {l : List V} {ns : List ByteArray} {p : ByteArray} {lc vc : Array Value} {O Bv B : Nat} (hB : w.heap.size < B) (hO : O < B) (hBv : Bv < B) {pre : List Yl} {W W' : World}
    (h : FieldsI w l ns p lc vc O Bv B pre W) (hb : Below W.heap.size W W') : FieldsI w l ns p lc vc O Bv B pre W' := by
  obtain ⟨u, h⟩ := h
  exact ⟨u, h.carry hB hO hBv (hb.mono h.1.size) (fun b hlt _ _ => hb.block b hlt)⟩

/-- what holds when a round's variables have been laid: the value's box lies at Bx. -/
def FieldsR (w : World) (l : List V) (ns : List ByteArray) (p : ByteArray) (lc vc : Array Value) (O Bv B : Nat) (f : Value → Value → Value → Array Value) (pre : List Yl) (y : Yl) (a : Act) (W : World) : Prop :=
  ∃ Bx u lo v, a = { tmps := f (.string y.name) (.pointer (some ⟨Bx, 0, none⟩)) (.agg #[.int .i64 y.k, .bool y.t, .string y.x, .slice y.A y.n y.ca, .slice y.B y.m y.cb]), defers := [] } ∧ FieldsU w l ns p lc vc O Bv B u pre W ∧ B + 1 < W.heap.size ∧ W.heap[Bx]? = some (.cells #[.int .i64 y.k, .bool y.t, .string y.x, .slice y.A y.n y.ca, .slice y.B y.m y.cb] 27 (0, 0)) ∧ B + 2 ≤ Bx ∧
    B + 2 ≤ lo ∧ (∀ k, u.ownBlock = some k → k < lo) ∧ lo ≤ Bx ∧ ns[pre.length]? = some y.name ∧ l[pre.length]? = some v ∧ v.Rep W (fun b => lo ≤ b ∧ b < Bx) y.cells

theorem FieldsR.abid {w : World} {l : List V} {ns : List ByteArray} {p : ByteArray} {lc vc : Array Value} {O Bv B : Nat} {f : Value → Value → Value → Array Value} (hB : w.heap.size < B) (hO : O < B) (hBv : Bv < B) (pre : List Yl) (y : Yl) (a : Act) :
    Abid B (FieldsR w l ns p lc vc O Bv B f pre y a) := by
  rintro W W' row ⟨Bx, u, lo, v, h1, h2, h3, h4, h5, h6, h7, h8, h9, h10, h11⟩ hg hr
  have hw := h2.1
  have hk : ∀ b, b < W.heap.size → b ≠ B → b ≠ B + 1 → W'.heap[b]? = W.heap[b]? := fun b hb hb1 hb2 => hg.block b hb (fun e => by have := hr b e.symm; omega)
  have hx : Bx < W.heap.size := (Array.getElem?_eq_some_iff.1 h4).1
  refine ⟨Bx, u, lo, v, h1, h2.carry hB hO hBv ((Below.refl w.heap.size W).grown hg hw.size (fun k e => by have := hr k e; omega)) hk, Nat.lt_of_lt_of_le h3 hg.size, ?_, h5, h6, h7, h8, h9, h10, ?_⟩
  · rw [hk _ hx (by omega) (by omega)]; exact h4
  · exact h11.agree fun b hb hlt => ⟨hk b hlt (by omega) (by omega), hb⟩

/-- a round's end: the look has been appended. -/
theorem fields_round {w : World} {l : List V} {ns : List ByteArray} {p : ByteArray} {lc vc : Array Value} {O Bv B : Nat} {u : Value} {pre : List Yl} {y : Yl} {v : V} {lo Bx : Nat} {W Wf w4 : World} {g cap : Nat} {o2 : Obj}
    (hB : w.heap.size < B) (hO : O < B) (hBv : Bv < B) (hOw : w.heap.size < O) (hOv : O ≠ Bv) (hU : FieldsU w l ns p lc vc O Bv B u pre W) (hsz : B + 1 < W.heap.size) (hlo : B + 2 ≤ lo) (hul : ∀ k, u.ownBlock = some k → k < lo)
    (hn : ns[pre.length]? = some y.name) (hv : l[pre.length]? = some v) (hr : v.Rep W (fun b => lo ≤ b ∧ b < Bx) y.cells) (hBx : Bx < W.heap.size)
    (hW : Below W.heap.size W Wf) (hg : (Wf.alloc o2).grownBy w4 u.ownBlock) (hgg : u.ownBlock = some g ∨ g = Wf.heap.size + 1)
    (hown : w4.ownsRow (B + 2) 32 6 (.slice (some ⟨g, 0, none⟩) (pre.length + 1) cap) (pre.length + 1) (ylooks p pre ++ ylook p y)) :
    KeepsOthers W (w4.setCell ⟨O, 0, none⟩ (.slice (some ⟨g, 0, none⟩) (pre.length + 1) cap)) ∧ Also (fun b => b < B ∧ b ≠ O) W (w4.setCell ⟨O, 0, none⟩ (.slice (some ⟨g, 0, none⟩) (pre.length + 1) cap)) ∧
      FieldsI w l ns p lc vc O Bv B (pre ++ [y]) (w4.setCell ⟨O, 0, none⟩ (.slice (some ⟨g, 0, none⟩) (pre.length + 1) cap)) := by
  obtain ⟨h1, h2, h3, h4, h5, h6⟩ := hU
  have lt : ∀ {b : Nat} {o : Obj}, W.heap[b]? = some o → b < W.heap.size := fun h => (Array.getElem?_eq_some_iff.1 h).1
  have hs := hW.size
  have hs4 : Wf.heap.size + 1 ≤ w4.heap.size := by have := hg.size; simp at this; exact this
  have hown' := World.ownsRow.lt h5
  have hgl := World.ownsRow.lt hown g rfl
  have key : ∀ b, b < W.heap.size → b ≠ O → some b ≠ u.ownBlock → (w4.setCell ⟨O, 0, none⟩ (.slice (some ⟨g, 0, none⟩) (pre.length + 1) cap)).heap[b]? = W.heap[b]? := fun b h1 h2 h3 => by
    rw [Below.heap_setCell _ _ _ b h2, hg.block b (by simp; omega) h3, Below.heap_alloc Wf o2 b (by omega)]
    exact hW.block b h1
  have hno : ∀ b, b < B + 2 → some b ≠ u.ownBlock := fun b hb e => by have := (hown' b e.symm).1; omega
  have hKeep : KeepsOthers W (w4.setCell ⟨O, 0, none⟩ (.slice (some ⟨g, 0, none⟩) (pre.length + 1) cap)) := by
    refine ⟨by rw [setCell_size]; omega, fun k o hk ho => ?_⟩
    rw [key k (lt hk) (fun e => by subst e; rw [h4] at hk; cases hk; cases ho) (fun e => ?_)]
    · exact hk
    · rcases h5.2 with ⟨rfl, _⟩ | ⟨g', cap', cur, rfl, _, hgb, _⟩
      · simp [Value.ownBlock] at e
      · obtain rfl : k = g' := by simpa [Value.ownBlock] using e
        rw [hgb] at hk; cases hk; cases ho
  refine ⟨hKeep, ⟨by rw [setCell_size]; omega, fun b hb hlt => key b hlt hb.2 (hno b (by omega))⟩, .slice (some ⟨g, 0, none⟩) (pre.length + 1) cap, ?_, ?_, ?_, ?_, ?_, ?_⟩
  · exact ((((h1.trans (hW.mono h1.size))).alloc (Nat.le_trans h1.size hs) o2).grown hg (by have := h1.size; simp; omega) (fun k hk => by have := (hown' k hk).1; omega)).setCell (by simp only; omega) _
  · rw [key _ (lt h2) (by omega) (hno _ (by omega))]; exact h2
  · rw [key _ (lt h3) (by omega) (hno _ (by omega))]; exact h3
  · have h44 : w4.heap[O]? = some (.cells #[u] 102 (0, 0)) := by
      rw [hg.block _ (by simp; have := lt h4; omega) (hno _ (by omega)), Below.heap_alloc Wf o2 _ (by have := lt h4; omega)]
      exact (hW.block _ (lt h4)).trans h4
    simpa using blk_set h44 0 (.slice (some ⟨g, 0, none⟩) (pre.length + 1) cap)
  · rw [List.length_append, ylooks_snoc]
    obtain ⟨ho1, ho2⟩ := hown
    refine ⟨ho1, ho2.imp id ?_⟩
    rintro ⟨g', cap', cur, e1, e2, e3, e4⟩
    refine ⟨g', cap', cur, e1, e2, ?_, e4⟩
    rw [Below.heap_setCell _ _ _ g' (by simp only; omega)]
    exact e3
  · intro i hi
    rw [List.length_append] at hi
    by_cases hij : i < pre.length
    · rw [List.getElem_append_left hij]
      obtain ⟨h7, v', h8, h9⟩ := h6 i hij
      refine ⟨h7, v', h8, h9.agree fun b hb hlt => ⟨key b hb.2.1 (by omega) hb.2.2, hb.1, by rw [setCell_size]; omega, ?_⟩⟩
      rcases hgg with h | h
      · rw [h] at hb; exact hb.2.2
      · intro e
        have : b = g := by simpa [Value.ownBlock] using e
        omega
    · obtain rfl : i = pre.length := by simp at hi; omega
      have hy : (pre ++ [y])[pre.length] = y := by simp
      rw [hy]
      refine ⟨hn, v, hv, hr.agree fun b hb hlt => ⟨key b hlt (by omega) (fun e => by have := hul b e.symm; omega), by omega, by rw [setCell_size]; omega, ?_⟩⟩
      intro e
      have hbg : b = g := by simpa [Value.ownBlock] using e
      rcases hgg with h | h
      · have := hul g h; omega
      · omega

end Go.Proofs.YtoimjnmhinfbkaaGreatDoor
