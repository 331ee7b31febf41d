import Derived.Test.YtoimjnmhinfbkaaGreatDoorS05
import Derived.Test.YtoimjnmhinfbkaaGreatDoorS07
namespace Go.Proofs.YtoimjnmhinfbkaaGreatDoor
open Go.RowKit
set_option maxRecDepth 100000
theorem own_ne_blk {w : World} {base e size n : Nat} {v : Value} {xs : List Value} (h : w.ownsRow base e size v n xs) {b t : Nat} {c : Array Value} (hb : w.heap[b]? = some (.cells c t (0, 0))) (hne : e ≠ t ∨ c.size < n * size) : v.ownBlock ≠ some b := by
  obtain ⟨-, ⟨rfl, -⟩ | ⟨g, cap, cur, rfl, -, hg, hn, -, hc, -⟩⟩ := h
  · simp [Value.ownBlock]
  · intro e'
    obtain rfl : g = b := by simpa [Value.ownBlock] using e'
    rw [hg] at hb
    simp only [Option.some.injEq, Obj.cells.injEq] at hb
    obtain ⟨rfl, rfl, -⟩ := hb
    rcases hne with h | h
    · exact h rfl
    · have := Nat.mul_le_mul_right size hn
      omega
theorem own_set5 {w : World} {base e size n : Nat} {v : Value} {xs : List Value} (h : w.ownsRow base e size v n xs) {b : Nat} (hne : v.ownBlock ≠ some b) (i : Nat) (x1 x2 x3 x4 x5 : Value) : (set5 w b i x1 x2 x3 x4 x5).ownsRow base e size v n xs :=
  h.far fun k hk => set5_far _ _ _ _ _ _ _ _ k (fun e => hne (by rw [hk, e]))
theorem five {c : Array Value} (h : c.size = 5) : ∃ a b d e f, c = #[a, b, d, e, f] := by
  obtain ⟨l⟩ := c
  match l, h with
  | [a, b, d, e, f], _ => exact ⟨a, b, d, e, f, rfl⟩
theorem set5_at {w : World} {b t : Nat} {c : Array Value} (hb : w.heap[b]? = some (.cells c t (0, 0))) (hc : c.size = 5) (x1 x2 x3 x4 x5 : Value) : (set5 w b 0 x1 x2 x3 x4 x5).heap[b]? = some (.cells #[x1, x2, x3, x4, x5] t (0, 0)) := by
  obtain ⟨a, b', d, e, f, rfl⟩ := five hc
  unfold set5
  exact blk_set (blk_set (blk_set (blk_set (blk_set hb _ _) _ _) _ _) _ _) _ _
theorem own_slice {w : World} {base e size n : Nat} {v : Value} {xs : List Value} (h : w.ownsRow base e size v n xs) : ∃ A c, v = .slice A n c := by
  obtain ⟨-, ⟨rfl, rfl⟩ | ⟨g, cap, cur, rfl, -⟩⟩ := h
  · exact ⟨_, _, rfl⟩
  · exact ⟨_, _, rfl⟩
theorem run_whole27 {ρ : Operand → Value} {w : World} {o : Oper} {x y : Operand} {q : Nat} {c : Array Value} {k : Int} {t : Bool} {s : ByteArray} {A B : Option Addr} {n m ca cb : Nat} (ho : o.op = .store 27 x y) (h : ρ x = .pointer (some ⟨q, 0, none⟩)) (hy : ρ y = .agg #[.int .i64 k, .bool t, .string s, .slice A n ca, .slice B m cb]) (hb : w.heap[q]? = some (.cells c 27 (0, 0))) (hc : c.size = 5) :
    (execOp ρ o).run Tryz.prog w = .ok .skip (set5 w q 0 (.int .i64 k) (.bool t) (.string s) (.slice A n ca) (.slice B m cb)) := by
  obtain ⟨a, b', d, e, f, rfl⟩ := five hc
  have hf : ∀ o, w.frozen? ⟨q, o, none⟩ = false := fun o => by simp [World.frozen?, hb]
  have e := fun o => cell_of_row w q o _ 27 (0, 0) hb
  clear hb hc
  unfold execOp set5; rw [ho]; simp only [h, hy]
  go_simp
theorem run_whole43 {ρ : Operand → Value} {w : World} {o : Oper} {x y : Operand} {q : Nat} {c : Array Value} {k : Int} {t : Bool} {s : ByteArray} {A B : Option Addr} {n m ca cb : Nat} (ho : o.op = .store 43 x y) (h : ρ x = .pointer (some ⟨q, 0, none⟩)) (hy : ρ y = .agg #[.int .i64 k, .bool t, .string s, .slice A n ca, .slice B m cb]) (hb : w.heap[q]? = some (.cells c 43 (0, 0))) (hc : c.size = 5) :
    (execOp ρ o).run Tryz.prog w = .ok .skip (set5 w q 0 (.int .i64 k) (.bool t) (.string s) (.slice A n ca) (.slice B m cb)) := by
  obtain ⟨a, b', d, e, f, rfl⟩ := five hc
  have hf : ∀ o, w.frozen? ⟨q, o, none⟩ = false := fun o => by simp [World.frozen?, hb]
  have e := fun o => cell_of_row w q o _ 43 (0, 0) hb
  clear hb hc
  unfold execOp set5; rw [ho]; simp only [h, hy]
  go_simp
noncomputable def ops78_1 : Array Oper := (Tryz.f78.body.bind (inCode 1)).getD #[]
def sl78_1 : Nat → Nat
  | 0 => 4
  | 1 => 5
  | 2 => 6
  | 3 => 7
  | 4 => 8
  | 5 => 9
  | 6 => 10
  | 7 => 11
  | 8 => 12
  | 9 => 3
  | 10 => 3
  | _ => 0
def R78_1 (B p : Nat) (xa : ByteArray) (xo : ByteArray) (xv : ByteArray) : Nat → Value → World → Prop
  | 0, v, w => w.ownsRow B 9 1 v 2 [.string ⟨#[97, 114, 99, 104, 105, 116, 101, 99, 116, 117, 114, 101]⟩, .string ⟨#[111, 115]⟩]
  | 1, v, w => v = .pointer (some ⟨p, 0, none⟩)
  | 2, v, w => v = .string xa
  | 3, v, w => v = .agg #[.int .i64 3, .bool false, .string xa, .slice none 0 0, .slice none 0 0]
  | 4, v, w => v = .pointer (some ⟨p, 1, none⟩)
  | 5, v, w => v = .string xo
  | 6, v, w => v = .agg #[.int .i64 3, .bool false, .string xo, .slice none 0 0, .slice none 0 0]
  | 7, v, w => w.ownsRow B 27 5 v 2 [.int .i64 3, .bool false, .string xa, .slice none 0 0, .slice none 0 0, .int .i64 3, .bool false, .string xo, .slice none 0 0, .slice none 0 0]
  | 8, v, w => ∃ U uc V vc, v = .agg #[.int .i64 5, .bool false, .string ⟨#[]⟩, .slice U 2 uc, .slice V 2 vc] ∧ w.ownsRow B 27 5 (.slice U 2 uc) 2 [.int .i64 3, .bool false, .string xa, .slice none 0 0, .slice none 0 0, .int .i64 3, .bool false, .string xo, .slice none 0 0, .slice none 0 0] ∧ w.ownsRow B 9 1 (.slice V 2 vc) 2 [.string ⟨#[97, 114, 99, 104, 105, 116, 101, 99, 116, 117, 114, 101]⟩, .string ⟨#[111, 115]⟩]
  | 9, v, w => ∃ b c, v = .pointer (some ⟨b, 0, none⟩) ∧ B ≤ b ∧ c.size = 5 ∧ w.heap[b]? = some (.cells c 27 (0, 0))
  | 10, v, w => ∃ b U uc V vc, v = .pointer (some ⟨b, 0, none⟩) ∧ B ≤ b ∧ w.heap[b]? = some (.cells #[.int .i64 5, .bool false, .string ⟨#[]⟩, .slice U 2 uc, .slice V 2 vc] 27 (0, 0)) ∧ w.ownsRow B 27 5 (.slice U 2 uc) 2 [.int .i64 3, .bool false, .string xa, .slice none 0 0, .slice none 0 0, .int .i64 3, .bool false, .string xo, .slice none 0 0, .slice none 0 0] ∧ w.ownsRow B 9 1 (.slice V 2 vc) 2 [.string ⟨#[97, 114, 99, 104, 105, 116, 101, 99, 116, 117, 114, 101]⟩, .string ⟨#[111, 115]⟩]
  | _, _, _ => True
theorem R78_1_ext {B p : Nat} {xa : ByteArray} {xo : ByteArray} {xv : ByteArray} {w w' : World} (hx : Ext w w') : ∀ j u, R78_1 B p xa xo xv j u w → R78_1 B p xa xo xv j u w'
  | 0, _, h => own_ext h hx
  | 1, _, h => h
  | 2, _, h => h
  | 3, _, h => h
  | 4, _, h => h
  | 5, _, h => h
  | 6, _, h => h
  | 7, _, h => own_ext h hx
  | 8, _, h => let ⟨U, uc, V, vc, e, h1, h2⟩ := h; ⟨U, uc, V, vc, e, own_ext h1 hx, own_ext h2 hx⟩
  | 9, _, h => let ⟨b, c, e, h1, h2, h3⟩ := h; ⟨b, c, e, h1, h2, blk_ext h3 hx⟩
  | 10, _, h => let ⟨b, U, uc, V, vc, e, h1, h2, h3, h4⟩ := h; ⟨b, U, uc, V, vc, e, h1, blk_ext h2 hx, own_ext h3 hx, own_ext h4 hx⟩
  | _ + 11, _, _ => trivial
def J78_1 (B : Nat) (w0 : World) (p : Nat) (xa : ByteArray) (xo : ByteArray) (xv : ByteArray) (L : Array Bool) (w : World) : Prop := Below B w0 w ∧ w.heap[p]? = some (.cells #[.string xa, .string xo, .string xv] 60 (0, 0))
theorem J78_1_any {B : Nat} {w0 : World} {p : Nat} {xa : ByteArray} {xo : ByteArray} {xv : ByteArray} {L : Array Bool} (L' : Array Bool) {w : World} (h : J78_1 B w0 p xa xo xv L w) : J78_1 B w0 p xa xo xv L' w := ⟨h.1, h.2⟩
theorem J78_1_ext {B : Nat} {w0 : World} {p : Nat} {xa : ByteArray} {xo : ByteArray} {xv : ByteArray} {L : Array Bool} (L' : Array Bool) {w w' : World} (h : J78_1 B w0 p xa xo xv L w) (hx : Ext w w') (hb : Below B w w') : J78_1 B w0 p xa xo xv L' w' := ⟨h.1.trans hb, blk_ext h.2 hx⟩
theorem J78_1_le {B : Nat} {w0 : World} (hB : B ≤ w0.heap.size) {p : Nat} {xa : ByteArray} {xo : ByteArray} {xv : ByteArray} {L : Array Bool} {w : World} (h : J78_1 B w0 p xa xo xv L w) : B ≤ w.heap.size := Nat.le_trans hB h.1.size
set_option maxHeartbeats 1600000 in
theorem reg78_1 {ops : Array Oper} (ho : ops = ops78_1) {Q : Exit → Act → World → Prop} {a0 : Act} {w0 : World} {B p : Nat} {xa : ByteArray} {xo : ByteArray} {xv : ByteArray} (hB : B ≤ w0.heap.size) (hp : w0.heap[p]? = some (.cells #[.string xa, .string xo, .string xv] 60 (0, 0))) (hs1 : a0.eval (.tmp 1) = .pointer (some ⟨p, 0, none⟩)) (hsz : a0.tmps.size = 30)
    (HK : ∀ L a w, J78_1 B w0 p xa xo xv L w → a.defers = a0.defers → a.tmps.size = 30 → (∀ s, freeB ops78_1 s = true → a.eval (.tmp s) = a0.eval (.tmp s)) → (∀ i, i < 11 → R78_1 B p xa xo xv i (a.eval (.tmp (sl78_1 i))) w) → Q .normal a w) : (Code.region 1 ops true).wp Tryz.prog Q a0 w0 := by
  subst ho
  refine region_made (n := 11) (sl := sl78_1) (J := J78_1 B w0 p xa xo xv) (R := R78_1 B p xa xo xv) (by kernel_rfl) (by kernel_rfl) (by kernel_rfl) (by rw [hsz]; kernel_rfl) ?_ ⟨(Below.refl _ _).drew, hp⟩ (fun L a w hall hf => HK L a w hf.world hf.defers (hf.size.trans hsz) hf.rest (fun i hi => hf.got i (hall i hi)))
  intro i hi L a w hs h1 hdep hd hst ho
  clear HK
  match i, hi, h1, hdep, ho with
  | 0, _, h1, hdep, ho =>
      have hr : (execOp a.eval (opAt ops78_1 0)).run Tryz.prog w = .ok (.value (.slice (some ⟨w.heap.size, 0, none⟩) 2 2)) (w.alloc (.cells #[.string ⟨#[97, 114, 99, 104, 105, 116, 101, 99, 116, 117, 114, 101]⟩, .string ⟨#[111, 115]⟩] 9)) := by
        clear hst hdep hd h1 hs ho
        have hk : ∀ v, a.eval (.const v) = v := fun _ => rfl; generalize a.eval = ρ at hk ⊢
        unfold execOp; rw [show (opAt ops78_1 0).op = .buildSlice 25 2 #[(0, .const (.string ⟨#[97, 114, 99, 104, 105, 116, 101, 99, 116, 117, 114, 101]⟩)), (1, .const (.string ⟨#[111, 115]⟩))] from by kernel_rfl]; try simp only [hk]
        go_simp
      exact op_value ho (by kernel_rfl) hr (made_val (d := 4) (by kernel_rfl) (own_new [.string ⟨#[97, 114, 99, 104, 105, 116, 101, 99, 116, 117, 114, 101]⟩, .string ⟨#[111, 115]⟩] rfl (J78_1_le hB hst.world) (by decide)) (J78_1_ext _ hst.world (Ext.alloc _ _) ((Below.refl _ _).alloc (J78_1_le hB hst.world) _)) (fun j _ _ u h => R78_1_ext (Ext.alloc _ _) j u h))
  | 1, _, h1, hdep, ho =>
      have s1 := (hst.rest 1 (by kernel_rfl)).trans hs1
      have hr : (execOp a.eval (opAt ops78_1 1)).run Tryz.prog w = .ok (.value (.pointer (some ⟨p, 0, none⟩))) w := by
        clear hst hdep hd h1 hs ho
        generalize a.eval = ρ at s1 ⊢
        unfold execOp; rw [show (opAt ops78_1 1).op = .fieldAddr 60 (.tmp 1) 0 from by kernel_rfl]; try simp only [s1]
        go_simp
      exact op_value ho (by kernel_rfl) hr (made_val (d := 5) (by kernel_rfl) rfl (J78_1_any _ hst.world) (fun _ _ _ _ h => h))
  | 2, _, h1, hdep, ho =>
      have cp := fun o => cell_of_row w p o _ 60 (0, 0) hst.world.2
      have g1 : a.eval (.tmp 5) = .pointer (some ⟨p, 0, none⟩) := hst.got 1 (hdep 1 (by kernel_rfl))
      have hr : (execOp a.eval (opAt ops78_1 2)).run Tryz.prog w = .ok (.value (.string xa)) w := by
        clear hst hdep hd h1 hs ho
        generalize a.eval = ρ at g1 ⊢
        unfold execOp; rw [show (opAt ops78_1 2).op = .load 9 (.tmp 5) from by kernel_rfl]; try simp only [g1]
        go_simp
      exact op_value ho (by kernel_rfl) hr (made_val (d := 6) (by kernel_rfl) rfl (J78_1_any _ hst.world) (fun _ _ _ _ h => h))
  | 3, _, h1, hdep, ho =>
      have g2 : a.eval (.tmp 6) = .string xa := hst.got 2 (hdep 2 (by kernel_rfl))
      have hr : (execOp a.eval (opAt ops78_1 3)).run Tryz.prog w = .ok (.enter 77 #[.string xa]) w := by
        clear hst hdep hd h1 hs ho
        have hk : ∀ f, a.eval (.func f) = .func (.func f) #[] #[] := fun _ => rfl; generalize a.eval = ρ at g2 hk ⊢
        unfold execOp; rw [show (opAt ops78_1 3).op = .call { callee := .value (.func 77), args := #[.tmp 6], argTypes := #[9] } from by kernel_rfl]; try simp only [g2, hk]
        go_simp
      refine op_call ho (by kernel_rfl) hr ((text_of xa w).mono ?_)
      rintro e w'' ⟨rfl, hb⟩
      exact ⟨_, rfl, made_val (d := 7) (by kernel_rfl) rfl (J78_1_ext _ hst.world (Ext.of_below hb) (hb.mono (J78_1_le hB hst.world))) (fun j _ _ u h => R78_1_ext (Ext.of_below hb) j u h)⟩
  | 4, _, h1, hdep, ho =>
      have s1 := (hst.rest 1 (by kernel_rfl)).trans hs1
      have hr : (execOp a.eval (opAt ops78_1 4)).run Tryz.prog w = .ok (.value (.pointer (some ⟨p, 1, none⟩))) w := by
        clear hst hdep hd h1 hs ho
        generalize a.eval = ρ at s1 ⊢
        unfold execOp; rw [show (opAt ops78_1 4).op = .fieldAddr 60 (.tmp 1) 1 from by kernel_rfl]; try simp only [s1]
        go_simp
      exact op_value ho (by kernel_rfl) hr (made_val (d := 8) (by kernel_rfl) rfl (J78_1_any _ hst.world) (fun _ _ _ _ h => h))
  | 5, _, h1, hdep, ho =>
      have cp := fun o => cell_of_row w p o _ 60 (0, 0) hst.world.2
      have g4 : a.eval (.tmp 8) = .pointer (some ⟨p, 1, none⟩) := hst.got 4 (hdep 4 (by kernel_rfl))
      have hr : (execOp a.eval (opAt ops78_1 5)).run Tryz.prog w = .ok (.value (.string xo)) w := by
        clear hst hdep hd h1 hs ho
        generalize a.eval = ρ at g4 ⊢
        unfold execOp; rw [show (opAt ops78_1 5).op = .load 9 (.tmp 8) from by kernel_rfl]; try simp only [g4]
        go_simp
      exact op_value ho (by kernel_rfl) hr (made_val (d := 9) (by kernel_rfl) rfl (J78_1_any _ hst.world) (fun _ _ _ _ h => h))
  | 6, _, h1, hdep, ho =>
      have g5 : a.eval (.tmp 9) = .string xo := hst.got 5 (hdep 5 (by kernel_rfl))
      have hr : (execOp a.eval (opAt ops78_1 6)).run Tryz.prog w = .ok (.enter 77 #[.string xo]) w := by
        clear hst hdep hd h1 hs ho
        have hk : ∀ f, a.eval (.func f) = .func (.func f) #[] #[] := fun _ => rfl; generalize a.eval = ρ at g5 hk ⊢
        unfold execOp; rw [show (opAt ops78_1 6).op = .call { callee := .value (.func 77), args := #[.tmp 9], argTypes := #[9] } from by kernel_rfl]; try simp only [g5, hk]
        go_simp
      refine op_call ho (by kernel_rfl) hr ((text_of xo w).mono ?_)
      rintro e w'' ⟨rfl, hb⟩
      exact ⟨_, rfl, made_val (d := 10) (by kernel_rfl) rfl (J78_1_ext _ hst.world (Ext.of_below hb) (hb.mono (J78_1_le hB hst.world))) (fun j _ _ u h => R78_1_ext (Ext.of_below hb) j u h)⟩
  | 7, _, h1, hdep, ho =>
      have g3 : a.eval (.tmp 7) = .agg #[.int .i64 3, .bool false, .string xa, .slice none 0 0, .slice none 0 0] := hst.got 3 (hdep 3 (by kernel_rfl))
      have g6 : a.eval (.tmp 10) = .agg #[.int .i64 3, .bool false, .string xo, .slice none 0 0, .slice none 0 0] := hst.got 6 (hdep 6 (by kernel_rfl))
      have hr : (execOp a.eval (opAt ops78_1 7)).run Tryz.prog w = .ok (.value (.slice (some ⟨w.heap.size, 0, none⟩) 2 2)) (w.alloc (.cells #[.int .i64 3, .bool false, .string xa, .slice none 0 0, .slice none 0 0, .int .i64 3, .bool false, .string xo, .slice none 0 0, .slice none 0 0] 27)) := by
        clear hst hdep hd h1 hs ho
        generalize a.eval = ρ at g3 g6 ⊢
        unfold execOp; rw [show (opAt ops78_1 7).op = .buildSlice 24 2 #[(0, .tmp 7), (1, .tmp 10)] from by kernel_rfl]; try simp only [g3, g6]
        go_simp
      exact op_value ho (by kernel_rfl) hr (made_val (d := 11) (by kernel_rfl) (own_new [.int .i64 3, .bool false, .string xa, .slice none 0 0, .slice none 0 0, .int .i64 3, .bool false, .string xo, .slice none 0 0, .slice none 0 0] rfl (J78_1_le hB hst.world) (by decide)) (J78_1_ext _ hst.world (Ext.alloc _ _) ((Below.refl _ _).alloc (J78_1_le hB hst.world) _)) (fun j _ _ u h => R78_1_ext (Ext.alloc _ _) j u h))
  | 8, _, h1, hdep, ho =>
      have ga := hst.got 0 (hdep 0 (by kernel_rfl))
      have gb := hst.got 7 (hdep 7 (by kernel_rfl))
      obtain ⟨V, vc, e1⟩ := own_slice ga
      obtain ⟨U, uc, e2⟩ := own_slice gb
      have e1' : a.eval (.tmp 4) = .slice V 2 vc := e1
      have e2' : a.eval (.tmp 11) = .slice U 2 uc := e2
      have ga' : w.ownsRow B 9 1 (.slice V 2 vc) 2 [.string ⟨#[97, 114, 99, 104, 105, 116, 101, 99, 116, 117, 114, 101]⟩, .string ⟨#[111, 115]⟩] := e1' ▸ ga
      have gb' : w.ownsRow B 27 5 (.slice U 2 uc) 2 [.int .i64 3, .bool false, .string xa, .slice none 0 0, .slice none 0 0, .int .i64 3, .bool false, .string xo, .slice none 0 0, .slice none 0 0] := e2' ▸ gb
      clear ga gb e1 e2
      have hr : (execOp a.eval (opAt ops78_1 8)).run Tryz.prog w = .ok (.value (.agg #[.int .i64 5, .bool false, .string ⟨#[]⟩, .slice U 2 uc, .slice V 2 vc])) w := by
        clear hst hdep hd h1 hs ho
        clear ga' gb'; have hk : ∀ v, a.eval (.const v) = v := fun _ => rfl; generalize a.eval = ρ at e1' e2' hk ⊢
        unfold execOp; rw [show (opAt ops78_1 8).op = .build 27 #[(0, .const (.int .i64 5)), (4, .tmp 4), (3, .tmp 11)] from by kernel_rfl]; try simp only [e1', e2', hk]
        go_simp
      exact op_value ho (by kernel_rfl) hr (made_val (d := 12) (by kernel_rfl) ⟨U, uc, V, vc, rfl, gb', ga'⟩ (J78_1_any _ hst.world) (fun _ _ _ _ h => h))
  | 9, _, h1, hdep, ho =>
      have hr : (execOp a.eval (opAt ops78_1 9)).run Tryz.prog w = .ok (.value (.pointer (some ⟨w.heap.size, 0, none⟩))) (w.alloc (.cells #[.int .i64 0, .bool false, .string ⟨#[]⟩, .slice none 0 0, .slice none 0 0] 27)) := by
        clear hst hdep hd h1 hs ho
        generalize a.eval = ρ
        unfold execOp; rw [show (opAt ops78_1 9).op = .alloc 27 from by kernel_rfl]
        go_simp
      exact op_value ho (by kernel_rfl) hr (made_val (d := 3) (by kernel_rfl) (⟨_, _, rfl, J78_1_le hB hst.world, rfl, alloc_at rfl⟩) (J78_1_ext _ hst.world (Ext.alloc _ _) ((Below.refl _ _).alloc (J78_1_le hB hst.world) _)) (fun j _ _ u h => R78_1_ext (Ext.alloc _ _) j u h))
  | 10, _, h1, hdep, ho =>
      obtain ⟨b, c, e3, hb1, hb2, hb3⟩ := hst.got 9 (hdep 9 (by kernel_rfl))
      obtain ⟨U, uc, V, vc, e4, hu, hv⟩ := hst.got 8 (hdep 8 (by kernel_rfl))
      have hun := own_ne_blk hu hb3 (.inr (by omega))
      have hvn := own_ne_blk hv hb3 (.inl (by decide))
      have hpb : p ≠ b := fun e => by have h := hst.world.2; rw [e, hb3] at h; simp at h
      have hr := run_whole27 (x := .tmp 3) (y := .tmp 12) (show (opAt ops78_1 10).op = _ from (by kernel_rfl)) e3 e4 hb3 hb2
      refine op_skip ho (by kernel_rfl) hr (made_skip (by kernel_rfl) ⟨b, U, uc, V, vc, e3, hb1, set5_at hb3 hb2 _ _ _ _ _, own_set5 hu hun _ _ _ _ _ _, own_set5 hv hvn _ _ _ _ _ _⟩ ⟨set5_below hst.world.1 hb1 _ _ _ _ _ _, (set5_far _ _ _ _ _ _ _ _ p hpb).trans hst.world.2⟩ ?_)
      intro j hj _ u h
      match j, hj, h with
      | 0, _, h => exact own_set5 h (own_ne_blk h hb3 (.inl (by decide))) _ _ _ _ _ _
      | 1, _, h => exact (show _ = _ from h)
      | 2, _, h => exact (show _ = _ from h)
      | 3, _, h => exact (show _ = _ from h)
      | 4, _, h => exact (show _ = _ from h)
      | 5, _, h => exact (show _ = _ from h)
      | 6, _, h => exact (show _ = _ from h)
      | 7, _, h => exact own_set5 h (own_ne_blk h hb3 (.inr (by omega))) _ _ _ _ _ _
      | 8, _, h => exact (let ⟨U, uc, V, vc, e, h1, h2⟩ := h; ⟨U, uc, V, vc, e, own_set5 h1 (own_ne_blk h1 hb3 (.inr (by omega))) _ _ _ _ _ _, own_set5 h2 (own_ne_blk h2 hb3 (.inl (by decide))) _ _ _ _ _ _⟩)
      | 9, _, h =>
        obtain ⟨b', c', e, h1, h2, h3⟩ := h
        by_cases hbb : b' = b
        · subst hbb; exact ⟨b', #[_, _, _, _, _], e, h1, rfl, set5_at hb3 hb2 _ _ _ _ _⟩
        · exact ⟨b', c', e, h1, h2, (set5_far _ _ _ _ _ _ _ _ b' hbb).trans h3⟩
      | 10, hj, _ => exact absurd rfl hj
      | _ + 11, _, _ => exact trivial
  | k + 11, hi, _, _, _ => exact absurd hi (by omega)
noncomputable def ops33_5 : Array Oper := (Tryz.f33.body.bind (inCode 5)).getD #[]
def sl33_5 : Nat → Nat
  | 0 => 17
  | 1 => 18
  | 2 => 19
  | 3 => 20
  | 4 => 21
  | 5 => 22
  | 6 => 23
  | 7 => 24
  | 8 => 25
  | 9 => 6
  | 10 => 6
  | _ => 0
def R33_5 (B p : Nat) (xm : ByteArray) (xn : ByteArray) (xz : Nat) (xa : ByteArray) (xo : ByteArray) (xv : ByteArray) : Nat → Value → World → Prop
  | 0, v, w => w.ownsRow B 9 1 v 2 [.string ⟨#[100, 105, 103, 101, 115, 116]⟩, .string ⟨#[109, 101, 100, 105, 97, 84, 121, 112, 101]⟩]
  | 1, v, w => v = .pointer (some ⟨p, 1, none⟩)
  | 2, v, w => v = .string xn
  | 3, v, w => v = .agg #[.int .i64 3, .bool false, .string xn, .slice none 0 0, .slice none 0 0]
  | 4, v, w => v = .pointer (some ⟨p, 0, none⟩)
  | 5, v, w => v = .string xm
  | 6, v, w => v = .agg #[.int .i64 3, .bool false, .string xm, .slice none 0 0, .slice none 0 0]
  | 7, v, w => w.ownsRow B 27 5 v 2 [.int .i64 3, .bool false, .string xn, .slice none 0 0, .slice none 0 0, .int .i64 3, .bool false, .string xm, .slice none 0 0, .slice none 0 0]
  | 8, v, w => ∃ U uc V vc, v = .agg #[.int .i64 5, .bool false, .string ⟨#[]⟩, .slice U 2 uc, .slice V 2 vc] ∧ w.ownsRow B 27 5 (.slice U 2 uc) 2 [.int .i64 3, .bool false, .string xn, .slice none 0 0, .slice none 0 0, .int .i64 3, .bool false, .string xm, .slice none 0 0, .slice none 0 0] ∧ w.ownsRow B 9 1 (.slice V 2 vc) 2 [.string ⟨#[100, 105, 103, 101, 115, 116]⟩, .string ⟨#[109, 101, 100, 105, 97, 84, 121, 112, 101]⟩]
  | 9, v, w => ∃ b c, v = .pointer (some ⟨b, 0, none⟩) ∧ B ≤ b ∧ c.size = 5 ∧ w.heap[b]? = some (.cells c 27 (0, 0))
  | 10, v, w => ∃ b U uc V vc, v = .pointer (some ⟨b, 0, none⟩) ∧ B ≤ b ∧ w.heap[b]? = some (.cells #[.int .i64 5, .bool false, .string ⟨#[]⟩, .slice U 2 uc, .slice V 2 vc] 27 (0, 0)) ∧ w.ownsRow B 27 5 (.slice U 2 uc) 2 [.int .i64 3, .bool false, .string xn, .slice none 0 0, .slice none 0 0, .int .i64 3, .bool false, .string xm, .slice none 0 0, .slice none 0 0] ∧ w.ownsRow B 9 1 (.slice V 2 vc) 2 [.string ⟨#[100, 105, 103, 101, 115, 116]⟩, .string ⟨#[109, 101, 100, 105, 97, 84, 121, 112, 101]⟩]
  | _, _, _ => True
theorem R33_5_ext {B p : Nat} {xm : ByteArray} {xn : ByteArray} {xz : Nat} {xa : ByteArray} {xo : ByteArray} {xv : ByteArray} {w w' : World} (hx : Ext w w') : ∀ j u, R33_5 B p xm xn xz xa xo xv j u w → R33_5 B p xm xn xz xa xo xv j u w'
  | 0, _, h => own_ext h hx
  | 1, _, h => h
  | 2, _, h => h
  | 3, _, h => h
  | 4, _, h => h
  | 5, _, h => h
  | 6, _, h => h
  | 7, _, h => own_ext h hx
  | 8, _, h => let ⟨U, uc, V, vc, e, h1, h2⟩ := h; ⟨U, uc, V, vc, e, own_ext h1 hx, own_ext h2 hx⟩
  | 9, _, h => let ⟨b, c, e, h1, h2, h3⟩ := h; ⟨b, c, e, h1, h2, blk_ext h3 hx⟩
  | 10, _, h => let ⟨b, U, uc, V, vc, e, h1, h2, h3, h4⟩ := h; ⟨b, U, uc, V, vc, e, h1, blk_ext h2 hx, own_ext h3 hx, own_ext h4 hx⟩
  | _ + 11, _, _ => trivial
def J33_5 (B : Nat) (w0 : World) (p : Nat) (xm : ByteArray) (xn : ByteArray) (xz : Nat) (xa : ByteArray) (xo : ByteArray) (xv : ByteArray) (L : Array Bool) (w : World) : Prop := Below B w0 w ∧ w.heap[p]? = some (.cells #[.string xm, .string xn, .int .i64 (xz : Int), .string xa, .string xo, .string xv] 62 (0, 0))
theorem J33_5_any {B : Nat} {w0 : World} {p : Nat} {xm : ByteArray} {xn : ByteArray} {xz : Nat} {xa : ByteArray} {xo : ByteArray} {xv : ByteArray} {L : Array Bool} (L' : Array Bool) {w : World} (h : J33_5 B w0 p xm xn xz xa xo xv L w) : J33_5 B w0 p xm xn xz xa xo xv L' w := ⟨h.1, h.2⟩
theorem J33_5_ext {B : Nat} {w0 : World} {p : Nat} {xm : ByteArray} {xn : ByteArray} {xz : Nat} {xa : ByteArray} {xo : ByteArray} {xv : ByteArray} {L : Array Bool} (L' : Array Bool) {w w' : World} (h : J33_5 B w0 p xm xn xz xa xo xv L w) (hx : Ext w w') (hb : Below B w w') : J33_5 B w0 p xm xn xz xa xo xv L' w' := ⟨h.1.trans hb, blk_ext h.2 hx⟩
theorem J33_5_le {B : Nat} {w0 : World} (hB : B ≤ w0.heap.size) {p : Nat} {xm : ByteArray} {xn : ByteArray} {xz : Nat} {xa : ByteArray} {xo : ByteArray} {xv : ByteArray} {L : Array Bool} {w : World} (h : J33_5 B w0 p xm xn xz xa xo xv L w) : B ≤ w.heap.size := Nat.le_trans hB h.1.size
set_option maxHeartbeats 1600000 in
theorem reg33_5 {ops : Array Oper} (ho : ops = ops33_5) {Q : Exit → Act → World → Prop} {a0 : Act} {w0 : World} {B p : Nat} {xm : ByteArray} {xn : ByteArray} {xz : Nat} {xa : ByteArray} {xo : ByteArray} {xv : ByteArray} (hB : B ≤ w0.heap.size) (hp : w0.heap[p]? = some (.cells #[.string xm, .string xn, .int .i64 (xz : Int), .string xa, .string xo, .string xv] 62 (0, 0))) (hs1 : a0.eval (.tmp 1) = .pointer (some ⟨p, 0, none⟩)) (hsz : a0.tmps.size = 55)
    (HK : ∀ L a w, J33_5 B w0 p xm xn xz xa xo xv L w → a.defers = a0.defers → a.tmps.size = 55 → (∀ s, freeB ops33_5 s = true → a.eval (.tmp s) = a0.eval (.tmp s)) → (∀ i, i < 11 → R33_5 B p xm xn xz xa xo xv i (a.eval (.tmp (sl33_5 i))) w) → Q .normal a w) : (Code.region 5 ops true).wp Tryz.prog Q a0 w0 := by
  subst ho
  refine region_made (n := 11) (sl := sl33_5) (J := J33_5 B w0 p xm xn xz xa xo xv) (R := R33_5 B p xm xn xz xa xo xv) (by kernel_rfl) (by kernel_rfl) (by kernel_rfl) (by rw [hsz]; kernel_rfl) ?_ ⟨(Below.refl _ _).drew, hp⟩ (fun L a w hall hf => HK L a w hf.world hf.defers (hf.size.trans hsz) hf.rest (fun i hi => hf.got i (hall i hi)))
  intro i hi L a w hs h1 hdep hd hst ho
  clear HK
  match i, hi, h1, hdep, ho with
  | 0, _, h1, hdep, ho =>
      have hr : (execOp a.eval (opAt ops33_5 0)).run Tryz.prog w = .ok (.value (.slice (some ⟨w.heap.size, 0, none⟩) 2 2)) (w.alloc (.cells #[.string ⟨#[100, 105, 103, 101, 115, 116]⟩, .string ⟨#[109, 101, 100, 105, 97, 84, 121, 112, 101]⟩] 9)) := by
        clear hst hdep hd h1 hs ho
        have hk : ∀ v, a.eval (.const v) = v := fun _ => rfl; generalize a.eval = ρ at hk ⊢
        unfold execOp; rw [show (opAt ops33_5 0).op = .buildSlice 25 2 #[(0, .const (.string ⟨#[100, 105, 103, 101, 115, 116]⟩)), (1, .const (.string ⟨#[109, 101, 100, 105, 97, 84, 121, 112, 101]⟩))] from by kernel_rfl]; try simp only [hk]
        go_simp
      exact op_value ho (by kernel_rfl) hr (made_val (d := 17) (by kernel_rfl) (own_new [.string ⟨#[100, 105, 103, 101, 115, 116]⟩, .string ⟨#[109, 101, 100, 105, 97, 84, 121, 112, 101]⟩] rfl (J33_5_le hB hst.world) (by decide)) (J33_5_ext _ hst.world (Ext.alloc _ _) ((Below.refl _ _).alloc (J33_5_le hB hst.world) _)) (fun j _ _ u h => R33_5_ext (Ext.alloc _ _) j u h))
  | 1, _, h1, hdep, ho =>
      have s1 := (hst.rest 1 (by kernel_rfl)).trans hs1
      have hr : (execOp a.eval (opAt ops33_5 1)).run Tryz.prog w = .ok (.value (.pointer (some ⟨p, 1, none⟩))) w := by
        clear hst hdep hd h1 hs ho
        generalize a.eval = ρ at s1 ⊢
        unfold execOp; rw [show (opAt ops33_5 1).op = .fieldAddr 62 (.tmp 1) 1 from by kernel_rfl]; try simp only [s1]
        go_simp
      exact op_value ho (by kernel_rfl) hr (made_val (d := 18) (by kernel_rfl) rfl (J33_5_any _ hst.world) (fun _ _ _ _ h => h))
  | 2, _, h1, hdep, ho =>
      have cp := fun o => cell_of_row w p o _ 62 (0, 0) hst.world.2
      have g1 : a.eval (.tmp 18) = .pointer (some ⟨p, 1, none⟩) := hst.got 1 (hdep 1 (by kernel_rfl))
      have hr : (execOp a.eval (opAt ops33_5 2)).run Tryz.prog w = .ok (.value (.string xn)) w := by
        clear hst hdep hd h1 hs ho
        generalize a.eval = ρ at g1 ⊢
        unfold execOp; rw [show (opAt ops33_5 2).op = .load 9 (.tmp 18) from by kernel_rfl]; try simp only [g1]
        go_simp
      exact op_value ho (by kernel_rfl) hr (made_val (d := 19) (by kernel_rfl) rfl (J33_5_any _ hst.world) (fun _ _ _ _ h => h))
  | 3, _, h1, hdep, ho =>
      have g2 : a.eval (.tmp 19) = .string xn := hst.got 2 (hdep 2 (by kernel_rfl))
      have hr : (execOp a.eval (opAt ops33_5 3)).run Tryz.prog w = .ok (.enter 77 #[.string xn]) w := by
        clear hst hdep hd h1 hs ho
        have hk : ∀ f, a.eval (.func f) = .func (.func f) #[] #[] := fun _ => rfl; generalize a.eval = ρ at g2 hk ⊢
        unfold execOp; rw [show (opAt ops33_5 3).op = .call { callee := .value (.func 77), args := #[.tmp 19], argTypes := #[9] } from by kernel_rfl]; try simp only [g2, hk]
        go_simp
      refine op_call ho (by kernel_rfl) hr ((text_of xn w).mono ?_)
      rintro e w'' ⟨rfl, hb⟩
      exact ⟨_, rfl, made_val (d := 20) (by kernel_rfl) rfl (J33_5_ext _ hst.world (Ext.of_below hb) (hb.mono (J33_5_le hB hst.world))) (fun j _ _ u h => R33_5_ext (Ext.of_below hb) j u h)⟩
  | 4, _, h1, hdep, ho =>
      have s1 := (hst.rest 1 (by kernel_rfl)).trans hs1
      have hr : (execOp a.eval (opAt ops33_5 4)).run Tryz.prog w = .ok (.value (.pointer (some ⟨p, 0, none⟩))) w := by
        clear hst hdep hd h1 hs ho
        generalize a.eval = ρ at s1 ⊢
        unfold execOp; rw [show (opAt ops33_5 4).op = .fieldAddr 62 (.tmp 1) 0 from by kernel_rfl]; try simp only [s1]
        go_simp
      exact op_value ho (by kernel_rfl) hr (made_val (d := 21) (by kernel_rfl) rfl (J33_5_any _ hst.world) (fun _ _ _ _ h => h))
  | 5, _, h1, hdep, ho =>
      have cp := fun o => cell_of_row w p o _ 62 (0, 0) hst.world.2
      have g4 : a.eval (.tmp 21) = .pointer (some ⟨p, 0, none⟩) := hst.got 4 (hdep 4 (by kernel_rfl))
      have hr : (execOp a.eval (opAt ops33_5 5)).run Tryz.prog w = .ok (.value (.string xm)) w := by
        clear hst hdep hd h1 hs ho
        generalize a.eval = ρ at g4 ⊢
        unfold execOp; rw [show (opAt ops33_5 5).op = .load 9 (.tmp 21) from by kernel_rfl]; try simp only [g4]
        go_simp
      exact op_value ho (by kernel_rfl) hr (made_val (d := 22) (by kernel_rfl) rfl (J33_5_any _ hst.world) (fun _ _ _ _ h => h))
  | 6, _, h1, hdep, ho =>
      have g5 : a.eval (.tmp 22) = .string xm := hst.got 5 (hdep 5 (by kernel_rfl))
      have hr : (execOp a.eval (opAt ops33_5 6)).run Tryz.prog w = .ok (.enter 77 #[.string xm]) w := by
        clear hst hdep hd h1 hs ho
        have hk : ∀ f, a.eval (.func f) = .func (.func f) #[] #[] := fun _ => rfl; generalize a.eval = ρ at g5 hk ⊢
        unfold execOp; rw [show (opAt ops33_5 6).op = .call { callee := .value (.func 77), args := #[.tmp 22], argTypes := #[9] } from by kernel_rfl]; try simp only [g5, hk]
        go_simp
      refine op_call ho (by kernel_rfl) hr ((text_of xm w).mono ?_)
      rintro e w'' ⟨rfl, hb⟩
      exact ⟨_, rfl, made_val (d := 23) (by kernel_rfl) rfl (J33_5_ext _ hst.world (Ext.of_below hb) (hb.mono (J33_5_le hB hst.world))) (fun j _ _ u h => R33_5_ext (Ext.of_below hb) j u h)⟩
  | 7, _, h1, hdep, ho =>
      have g3 : a.eval (.tmp 20) = .agg #[.int .i64 3, .bool false, .string xn, .slice none 0 0, .slice none 0 0] := hst.got 3 (hdep 3 (by kernel_rfl))
      have g6 : a.eval (.tmp 23) = .agg #[.int .i64 3, .bool false, .string xm, .slice none 0 0, .slice none 0 0] := hst.got 6 (hdep 6 (by kernel_rfl))
      have hr : (execOp a.eval (opAt ops33_5 7)).run Tryz.prog w = .ok (.value (.slice (some ⟨w.heap.size, 0, none⟩) 2 2)) (w.alloc (.cells #[.int .i64 3, .bool false, .string xn, .slice none 0 0, .slice none 0 0, .int .i64 3, .bool false, .string xm, .slice none 0 0, .slice none 0 0] 27)) := by
        clear hst hdep hd h1 hs ho
        generalize a.eval = ρ at g3 g6 ⊢
        unfold execOp; rw [show (opAt ops33_5 7).op = .buildSlice 24 2 #[(0, .tmp 20), (1, .tmp 23)] from by kernel_rfl]; try simp only [g3, g6]
        go_simp
      exact op_value ho (by kernel_rfl) hr (made_val (d := 24) (by kernel_rfl) (own_new [.int .i64 3, .bool false, .string xn, .slice none 0 0, .slice none 0 0, .int .i64 3, .bool false, .string xm, .slice none 0 0, .slice none 0 0] rfl (J33_5_le hB hst.world) (by decide)) (J33_5_ext _ hst.world (Ext.alloc _ _) ((Below.refl _ _).alloc (J33_5_le hB hst.world) _)) (fun j _ _ u h => R33_5_ext (Ext.alloc _ _) j u h))
  | 8, _, h1, hdep, ho =>
      have ga := hst.got 0 (hdep 0 (by kernel_rfl))
      have gb := hst.got 7 (hdep 7 (by kernel_rfl))
      obtain ⟨V, vc, e1⟩ := own_slice ga
      obtain ⟨U, uc, e2⟩ := own_slice gb
      have e1' : a.eval (.tmp 17) = .slice V 2 vc := e1
      have e2' : a.eval (.tmp 24) = .slice U 2 uc := e2
      have ga' : w.ownsRow B 9 1 (.slice V 2 vc) 2 [.string ⟨#[100, 105, 103, 101, 115, 116]⟩, .string ⟨#[109, 101, 100, 105, 97, 84, 121, 112, 101]⟩] := e1' ▸ ga
      have gb' : w.ownsRow B 27 5 (.slice U 2 uc) 2 [.int .i64 3, .bool false, .string xn, .slice none 0 0, .slice none 0 0, .int .i64 3, .bool false, .string xm, .slice none 0 0, .slice none 0 0] := e2' ▸ gb
      clear ga gb e1 e2
      have hr : (execOp a.eval (opAt ops33_5 8)).run Tryz.prog w = .ok (.value (.agg #[.int .i64 5, .bool false, .string ⟨#[]⟩, .slice U 2 uc, .slice V 2 vc])) w := by
        clear hst hdep hd h1 hs ho
        clear ga' gb'; have hk : ∀ v, a.eval (.const v) = v := fun _ => rfl; generalize a.eval = ρ at e1' e2' hk ⊢
        unfold execOp; rw [show (opAt ops33_5 8).op = .build 27 #[(0, .const (.int .i64 5)), (4, .tmp 17), (3, .tmp 24)] from by kernel_rfl]; try simp only [e1', e2', hk]
        go_simp
      exact op_value ho (by kernel_rfl) hr (made_val (d := 25) (by kernel_rfl) ⟨U, uc, V, vc, rfl, gb', ga'⟩ (J33_5_any _ hst.world) (fun _ _ _ _ h => h))
  | 9, _, h1, hdep, ho =>
      have hr : (execOp a.eval (opAt ops33_5 9)).run Tryz.prog w = .ok (.value (.pointer (some ⟨w.heap.size, 0, none⟩))) (w.alloc (.cells #[.int .i64 0, .bool false, .string ⟨#[]⟩, .slice none 0 0, .slice none 0 0] 27)) := by
        clear hst hdep hd h1 hs ho
        generalize a.eval = ρ
        unfold execOp; rw [show (opAt ops33_5 9).op = .alloc 27 from by kernel_rfl]
        go_simp
      exact op_value ho (by kernel_rfl) hr (made_val (d := 6) (by kernel_rfl) (⟨_, _, rfl, J33_5_le hB hst.world, rfl, alloc_at rfl⟩) (J33_5_ext _ hst.world (Ext.alloc _ _) ((Below.refl _ _).alloc (J33_5_le hB hst.world) _)) (fun j _ _ u h => R33_5_ext (Ext.alloc _ _) j u h))
  | 10, _, h1, hdep, ho =>
      obtain ⟨b, c, e3, hb1, hb2, hb3⟩ := hst.got 9 (hdep 9 (by kernel_rfl))
      obtain ⟨U, uc, V, vc, e4, hu, hv⟩ := hst.got 8 (hdep 8 (by kernel_rfl))
      have hun := own_ne_blk hu hb3 (.inr (by omega))
      have hvn := own_ne_blk hv hb3 (.inl (by decide))
      have hpb : p ≠ b := fun e => by have h := hst.world.2; rw [e, hb3] at h; simp at h
      have hr := run_whole27 (x := .tmp 6) (y := .tmp 25) (show (opAt ops33_5 10).op = _ from (by kernel_rfl)) e3 e4 hb3 hb2
      refine op_skip ho (by kernel_rfl) hr (made_skip (by kernel_rfl) ⟨b, U, uc, V, vc, e3, hb1, set5_at hb3 hb2 _ _ _ _ _, own_set5 hu hun _ _ _ _ _ _, own_set5 hv hvn _ _ _ _ _ _⟩ ⟨set5_below hst.world.1 hb1 _ _ _ _ _ _, (set5_far _ _ _ _ _ _ _ _ p hpb).trans hst.world.2⟩ ?_)
      intro j hj _ u h
      match j, hj, h with
      | 0, _, h => exact own_set5 h (own_ne_blk h hb3 (.inl (by decide))) _ _ _ _ _ _
      | 1, _, h => exact (show _ = _ from h)
      | 2, _, h => exact (show _ = _ from h)
      | 3, _, h => exact (show _ = _ from h)
      | 4, _, h => exact (show _ = _ from h)
      | 5, _, h => exact (show _ = _ from h)
      | 6, _, h => exact (show _ = _ from h)
      | 7, _, h => exact own_set5 h (own_ne_blk h hb3 (.inr (by omega))) _ _ _ _ _ _
      | 8, _, h => exact (let ⟨U, uc, V, vc, e, h1, h2⟩ := h; ⟨U, uc, V, vc, e, own_set5 h1 (own_ne_blk h1 hb3 (.inr (by omega))) _ _ _ _ _ _, own_set5 h2 (own_ne_blk h2 hb3 (.inl (by decide))) _ _ _ _ _ _⟩)
      | 9, _, h =>
        obtain ⟨b', c', e, h1, h2, h3⟩ := h
        by_cases hbb : b' = b
        · subst hbb; exact ⟨b', #[_, _, _, _, _], e, h1, rfl, set5_at hb3 hb2 _ _ _ _ _⟩
        · exact ⟨b', c', e, h1, h2, (set5_far _ _ _ _ _ _ _ _ b' hbb).trans h3⟩
      | 10, hj, _ => exact absurd rfl hj
      | _ + 11, _, _ => exact trivial
  | k + 11, hi, _, _, _ => exact absurd hi (by omega)
noncomputable def ops34_4 : Array Oper := (Tryz.f34.body.bind (inCode 4)).getD #[]
def sl34_4 : Nat → Nat
  | 0 => 14
  | 1 => 15
  | 2 => 16
  | 3 => 17
  | 4 => 18
  | 5 => 19
  | 6 => 20
  | 7 => 21
  | 8 => 22
  | 9 => 23
  | 10 => 24
  | 11 => 25
  | 12 => 26
  | 13 => 5
  | 14 => 5
  | _ => 0
def R34_4 (B p : Nat) (xm : ByteArray) (xn : ByteArray) (xz : Nat) (xa : ByteArray) (xo : ByteArray) (xv : ByteArray) : Nat → Value → World → Prop
  | 0, v, w => w.ownsRow B 9 1 v 3 [.string ⟨#[109, 101, 100, 105, 97, 84, 121, 112, 101]⟩, .string ⟨#[100, 105, 103, 101, 115, 116]⟩, .string ⟨#[115, 105, 122, 101]⟩]
  | 1, v, w => v = .pointer (some ⟨p, 0, none⟩)
  | 2, v, w => v = .string xm
  | 3, v, w => v = .agg #[.int .i64 3, .bool false, .string xm, .slice none 0 0, .slice none 0 0]
  | 4, v, w => v = .pointer (some ⟨p, 1, none⟩)
  | 5, v, w => v = .string xn
  | 6, v, w => v = .agg #[.int .i64 3, .bool false, .string xn, .slice none 0 0, .slice none 0 0]
  | 7, v, w => v = .pointer (some ⟨p, 2, none⟩)
  | 8, v, w => v = .int .i64 (xz : Int)
  | 9, v, w => v = .string ⟨(Lib.decDigits xz).toArray⟩
  | 10, v, w => v = .agg #[.int .i64 2, .bool false, .string ⟨(Lib.decDigits xz).toArray⟩, .slice none 0 0, .slice none 0 0]
  | 11, v, w => w.ownsRow B 43 5 v 3 [.int .i64 3, .bool false, .string xm, .slice none 0 0, .slice none 0 0, .int .i64 3, .bool false, .string xn, .slice none 0 0, .slice none 0 0, .int .i64 2, .bool false, .string ⟨(Lib.decDigits xz).toArray⟩, .slice none 0 0, .slice none 0 0]
  | 12, v, w => ∃ U uc V vc, v = .agg #[.int .i64 5, .bool false, .string ⟨#[]⟩, .slice U 3 uc, .slice V 3 vc] ∧ w.ownsRow B 43 5 (.slice U 3 uc) 3 [.int .i64 3, .bool false, .string xm, .slice none 0 0, .slice none 0 0, .int .i64 3, .bool false, .string xn, .slice none 0 0, .slice none 0 0, .int .i64 2, .bool false, .string ⟨(Lib.decDigits xz).toArray⟩, .slice none 0 0, .slice none 0 0] ∧ w.ownsRow B 9 1 (.slice V 3 vc) 3 [.string ⟨#[109, 101, 100, 105, 97, 84, 121, 112, 101]⟩, .string ⟨#[100, 105, 103, 101, 115, 116]⟩, .string ⟨#[115, 105, 122, 101]⟩]
  | 13, v, w => ∃ b c, v = .pointer (some ⟨b, 0, none⟩) ∧ B ≤ b ∧ c.size = 5 ∧ w.heap[b]? = some (.cells c 43 (0, 0))
  | 14, v, w => ∃ b U uc V vc, v = .pointer (some ⟨b, 0, none⟩) ∧ B ≤ b ∧ w.heap[b]? = some (.cells #[.int .i64 5, .bool false, .string ⟨#[]⟩, .slice U 3 uc, .slice V 3 vc] 43 (0, 0)) ∧ w.ownsRow B 43 5 (.slice U 3 uc) 3 [.int .i64 3, .bool false, .string xm, .slice none 0 0, .slice none 0 0, .int .i64 3, .bool false, .string xn, .slice none 0 0, .slice none 0 0, .int .i64 2, .bool false, .string ⟨(Lib.decDigits xz).toArray⟩, .slice none 0 0, .slice none 0 0] ∧ w.ownsRow B 9 1 (.slice V 3 vc) 3 [.string ⟨#[109, 101, 100, 105, 97, 84, 121, 112, 101]⟩, .string ⟨#[100, 105, 103, 101, 115, 116]⟩, .string ⟨#[115, 105, 122, 101]⟩]
  | _, _, _ => True
theorem R34_4_ext {B p : Nat} {xm : ByteArray} {xn : ByteArray} {xz : Nat} {xa : ByteArray} {xo : ByteArray} {xv : ByteArray} {w w' : World} (hx : Ext w w') : ∀ j u, R34_4 B p xm xn xz xa xo xv j u w → R34_4 B p xm xn xz xa xo xv j u w'
  | 0, _, h => own_ext h hx
  | 1, _, h => h
  | 2, _, h => h
  | 3, _, h => h
  | 4, _, h => h
  | 5, _, h => h
  | 6, _, h => h
  | 7, _, h => h
  | 8, _, h => h
  | 9, _, h => h
  | 10, _, h => h
  | 11, _, h => own_ext h hx
  | 12, _, h => let ⟨U, uc, V, vc, e, h1, h2⟩ := h; ⟨U, uc, V, vc, e, own_ext h1 hx, own_ext h2 hx⟩
  | 13, _, h => let ⟨b, c, e, h1, h2, h3⟩ := h; ⟨b, c, e, h1, h2, blk_ext h3 hx⟩
  | 14, _, h => let ⟨b, U, uc, V, vc, e, h1, h2, h3, h4⟩ := h; ⟨b, U, uc, V, vc, e, h1, blk_ext h2 hx, own_ext h3 hx, own_ext h4 hx⟩
  | _ + 15, _, _ => trivial
def J34_4 (B : Nat) (w0 : World) (p : Nat) (xm : ByteArray) (xn : ByteArray) (xz : Nat) (xa : ByteArray) (xo : ByteArray) (xv : ByteArray) (L : Array Bool) (w : World) : Prop := Below B w0 w ∧ w.heap[p]? = some (.cells #[.string xm, .string xn, .int .i64 (xz : Int), .string xa, .string xo, .string xv] 67 (0, 0))
theorem J34_4_any {B : Nat} {w0 : World} {p : Nat} {xm : ByteArray} {xn : ByteArray} {xz : Nat} {xa : ByteArray} {xo : ByteArray} {xv : ByteArray} {L : Array Bool} (L' : Array Bool) {w : World} (h : J34_4 B w0 p xm xn xz xa xo xv L w) : J34_4 B w0 p xm xn xz xa xo xv L' w := ⟨h.1, h.2⟩
theorem J34_4_ext {B : Nat} {w0 : World} {p : Nat} {xm : ByteArray} {xn : ByteArray} {xz : Nat} {xa : ByteArray} {xo : ByteArray} {xv : ByteArray} {L : Array Bool} (L' : Array Bool) {w w' : World} (h : J34_4 B w0 p xm xn xz xa xo xv L w) (hx : Ext w w') (hb : Below B w w') : J34_4 B w0 p xm xn xz xa xo xv L' w' := ⟨h.1.trans hb, blk_ext h.2 hx⟩
theorem J34_4_le {B : Nat} {w0 : World} (hB : B ≤ w0.heap.size) {p : Nat} {xm : ByteArray} {xn : ByteArray} {xz : Nat} {xa : ByteArray} {xo : ByteArray} {xv : ByteArray} {L : Array Bool} {w : World} (h : J34_4 B w0 p xm xn xz xa xo xv L w) : B ≤ w.heap.size := Nat.le_trans hB h.1.size
set_option maxHeartbeats 1600000 in
theorem reg34_4 {ops : Array Oper} (ho : ops = ops34_4) {Q : Exit → Act → World → Prop} {a0 : Act} {w0 : World} {B p : Nat} {xm : ByteArray} {xn : ByteArray} {xz : Nat} {xa : ByteArray} {xo : ByteArray} {xv : ByteArray} (hB : B ≤ w0.heap.size) (hp : w0.heap[p]? = some (.cells #[.string xm, .string xn, .int .i64 (xz : Int), .string xa, .string xo, .string xv] 67 (0, 0))) (hz : xz ≤ 1048576) (hs1 : a0.eval (.tmp 1) = .pointer (some ⟨p, 0, none⟩)) (hsz : a0.tmps.size = 70)
    (HK : ∀ L a w, J34_4 B w0 p xm xn xz xa xo xv L w → a.defers = a0.defers → a.tmps.size = 70 → (∀ s, freeB ops34_4 s = true → a.eval (.tmp s) = a0.eval (.tmp s)) → (∀ i, i < 15 → R34_4 B p xm xn xz xa xo xv i (a.eval (.tmp (sl34_4 i))) w) → Q .normal a w) : (Code.region 4 ops true).wp Tryz.prog Q a0 w0 := by
  subst ho
  refine region_made (n := 15) (sl := sl34_4) (J := J34_4 B w0 p xm xn xz xa xo xv) (R := R34_4 B p xm xn xz xa xo xv) (by kernel_rfl) (by kernel_rfl) (by kernel_rfl) (by rw [hsz]; kernel_rfl) ?_ ⟨(Below.refl _ _).drew, hp⟩ (fun L a w hall hf => HK L a w hf.world hf.defers (hf.size.trans hsz) hf.rest (fun i hi => hf.got i (hall i hi)))
  intro i hi L a w hs h1 hdep hd hst ho
  clear HK
  match i, hi, h1, hdep, ho with
  | 0, _, h1, hdep, ho =>
      have hr : (execOp a.eval (opAt ops34_4 0)).run Tryz.prog w = .ok (.value (.slice (some ⟨w.heap.size, 0, none⟩) 3 3)) (w.alloc (.cells #[.string ⟨#[109, 101, 100, 105, 97, 84, 121, 112, 101]⟩, .string ⟨#[100, 105, 103, 101, 115, 116]⟩, .string ⟨#[115, 105, 122, 101]⟩] 9)) := by
        clear hst hdep hd h1 hs ho
        have hk : ∀ v, a.eval (.const v) = v := fun _ => rfl; generalize a.eval = ρ at hk ⊢
        unfold execOp; rw [show (opAt ops34_4 0).op = .buildSlice 25 3 #[(0, .const (.string ⟨#[109, 101, 100, 105, 97, 84, 121, 112, 101]⟩)), (1, .const (.string ⟨#[100, 105, 103, 101, 115, 116]⟩)), (2, .const (.string ⟨#[115, 105, 122, 101]⟩))] from by kernel_rfl]; try simp only [hk]
        go_simp
      exact op_value ho (by kernel_rfl) hr (made_val (d := 14) (by kernel_rfl) (own_new [.string ⟨#[109, 101, 100, 105, 97, 84, 121, 112, 101]⟩, .string ⟨#[100, 105, 103, 101, 115, 116]⟩, .string ⟨#[115, 105, 122, 101]⟩] rfl (J34_4_le hB hst.world) (by decide)) (J34_4_ext _ hst.world (Ext.alloc _ _) ((Below.refl _ _).alloc (J34_4_le hB hst.world) _)) (fun j _ _ u h => R34_4_ext (Ext.alloc _ _) j u h))
  | 1, _, h1, hdep, ho =>
      have s1 := (hst.rest 1 (by kernel_rfl)).trans hs1
      have hr : (execOp a.eval (opAt ops34_4 1)).run Tryz.prog w = .ok (.value (.pointer (some ⟨p, 0, none⟩))) w := by
        clear hst hdep hd h1 hs ho
        generalize a.eval = ρ at s1 ⊢
        unfold execOp; rw [show (opAt ops34_4 1).op = .fieldAddr 67 (.tmp 1) 0 from by kernel_rfl]; try simp only [s1]
        go_simp
      exact op_value ho (by kernel_rfl) hr (made_val (d := 15) (by kernel_rfl) rfl (J34_4_any _ hst.world) (fun _ _ _ _ h => h))
  | 2, _, h1, hdep, ho =>
      have cp := fun o => cell_of_row w p o _ 67 (0, 0) hst.world.2
      have g1 : a.eval (.tmp 15) = .pointer (some ⟨p, 0, none⟩) := hst.got 1 (hdep 1 (by kernel_rfl))
      have hr : (execOp a.eval (opAt ops34_4 2)).run Tryz.prog w = .ok (.value (.string xm)) w := by
        clear hst hdep hd h1 hs ho
        generalize a.eval = ρ at g1 ⊢
        unfold execOp; rw [show (opAt ops34_4 2).op = .load 9 (.tmp 15) from by kernel_rfl]; try simp only [g1]
        go_simp
      exact op_value ho (by kernel_rfl) hr (made_val (d := 16) (by kernel_rfl) rfl (J34_4_any _ hst.world) (fun _ _ _ _ h => h))
  | 3, _, h1, hdep, ho =>
      have g2 : a.eval (.tmp 16) = .string xm := hst.got 2 (hdep 2 (by kernel_rfl))
      have hr : (execOp a.eval (opAt ops34_4 3)).run Tryz.prog w = .ok (.enter 80 #[.string xm]) w := by
        clear hst hdep hd h1 hs ho
        have hk : ∀ f, a.eval (.func f) = .func (.func f) #[] #[] := fun _ => rfl; generalize a.eval = ρ at g2 hk ⊢
        unfold execOp; rw [show (opAt ops34_4 3).op = .call { callee := .value (.func 80), args := #[.tmp 16], argTypes := #[9] } from by kernel_rfl]; try simp only [g2, hk]
        go_simp
      refine op_call ho (by kernel_rfl) hr ((rtext_of xm w).mono ?_)
      rintro e w'' ⟨rfl, hb⟩
      exact ⟨_, rfl, made_val (d := 17) (by kernel_rfl) rfl (J34_4_ext _ hst.world (Ext.of_below hb) (hb.mono (J34_4_le hB hst.world))) (fun j _ _ u h => R34_4_ext (Ext.of_below hb) j u h)⟩
  | 4, _, h1, hdep, ho =>
      have s1 := (hst.rest 1 (by kernel_rfl)).trans hs1
      have hr : (execOp a.eval (opAt ops34_4 4)).run Tryz.prog w = .ok (.value (.pointer (some ⟨p, 1, none⟩))) w := by
        clear hst hdep hd h1 hs ho
        generalize a.eval = ρ at s1 ⊢
        unfold execOp; rw [show (opAt ops34_4 4).op = .fieldAddr 67 (.tmp 1) 1 from by kernel_rfl]; try simp only [s1]
        go_simp
      exact op_value ho (by kernel_rfl) hr (made_val (d := 18) (by kernel_rfl) rfl (J34_4_any _ hst.world) (fun _ _ _ _ h => h))
  | 5, _, h1, hdep, ho =>
      have cp := fun o => cell_of_row w p o _ 67 (0, 0) hst.world.2
      have g4 : a.eval (.tmp 18) = .pointer (some ⟨p, 1, none⟩) := hst.got 4 (hdep 4 (by kernel_rfl))
      have hr : (execOp a.eval (opAt ops34_4 5)).run Tryz.prog w = .ok (.value (.string xn)) w := by
        clear hst hdep hd h1 hs ho
        generalize a.eval = ρ at g4 ⊢
        unfold execOp; rw [show (opAt ops34_4 5).op = .load 9 (.tmp 18) from by kernel_rfl]; try simp only [g4]
        go_simp
      exact op_value ho (by kernel_rfl) hr (made_val (d := 19) (by kernel_rfl) rfl (J34_4_any _ hst.world) (fun _ _ _ _ h => h))
  | 6, _, h1, hdep, ho =>
      have g5 : a.eval (.tmp 19) = .string xn := hst.got 5 (hdep 5 (by kernel_rfl))
      have hr : (execOp a.eval (opAt ops34_4 6)).run Tryz.prog w = .ok (.enter 80 #[.string xn]) w := by
        clear hst hdep hd h1 hs ho
        have hk : ∀ f, a.eval (.func f) = .func (.func f) #[] #[] := fun _ => rfl; generalize a.eval = ρ at g5 hk ⊢
        unfold execOp; rw [show (opAt ops34_4 6).op = .call { callee := .value (.func 80), args := #[.tmp 19], argTypes := #[9] } from by kernel_rfl]; try simp only [g5, hk]
        go_simp
      refine op_call ho (by kernel_rfl) hr ((rtext_of xn w).mono ?_)
      rintro e w'' ⟨rfl, hb⟩
      exact ⟨_, rfl, made_val (d := 20) (by kernel_rfl) rfl (J34_4_ext _ hst.world (Ext.of_below hb) (hb.mono (J34_4_le hB hst.world))) (fun j _ _ u h => R34_4_ext (Ext.of_below hb) j u h)⟩
  | 7, _, h1, hdep, ho =>
      have s1 := (hst.rest 1 (by kernel_rfl)).trans hs1
      have hr : (execOp a.eval (opAt ops34_4 7)).run Tryz.prog w = .ok (.value (.pointer (some ⟨p, 2, none⟩))) w := by
        clear hst hdep hd h1 hs ho
        generalize a.eval = ρ at s1 ⊢
        unfold execOp; rw [show (opAt ops34_4 7).op = .fieldAddr 67 (.tmp 1) 2 from by kernel_rfl]; try simp only [s1]
        go_simp
      exact op_value ho (by kernel_rfl) hr (made_val (d := 21) (by kernel_rfl) rfl (J34_4_any _ hst.world) (fun _ _ _ _ h => h))
  | 8, _, h1, hdep, ho =>
      have cp := fun o => cell_of_row w p o _ 67 (0, 0) hst.world.2
      have g7 : a.eval (.tmp 21) = .pointer (some ⟨p, 2, none⟩) := hst.got 7 (hdep 7 (by kernel_rfl))
      have hr : (execOp a.eval (opAt ops34_4 8)).run Tryz.prog w = .ok (.value (.int .i64 (xz : Int))) w := by
        clear hst hdep hd h1 hs ho
        generalize a.eval = ρ at g7 ⊢
        unfold execOp; rw [show (opAt ops34_4 8).op = .load 3 (.tmp 21) from by kernel_rfl]; try simp only [g7]
        go_simp
      exact op_value ho (by kernel_rfl) hr (made_val (d := 22) (by kernel_rfl) rfl (J34_4_any _ hst.world) (fun _ _ _ _ h => h))
  | 9, _, h1, hdep, ho =>
      have g8 : a.eval (.tmp 22) = .int .i64 (xz : Int) := hst.got 8 (hdep 8 (by kernel_rfl))
      have hr : (execOp a.eval (opAt ops34_4 9)).run Tryz.prog w = .ok (.enter 81 #[.int .i64 (xz : Int)]) w := by
        clear hst hdep hd h1 hs ho
        have hk : ∀ f, a.eval (.func f) = .func (.func f) #[] #[] := fun _ => rfl; generalize a.eval = ρ at g8 hk ⊢
        unfold execOp; rw [show (opAt ops34_4 9).op = .call { callee := .value (.func 81), args := #[.tmp 22], argTypes := #[3] } from by kernel_rfl]; try simp only [g8, hk]
        go_simp
      refine op_call ho (by kernel_rfl) hr ((figures23 xz w (by omega)).mono ?_)
      rintro e w'' ⟨rfl, hb⟩
      exact ⟨_, rfl, made_val (d := 23) (by kernel_rfl) rfl (J34_4_ext _ hst.world (Ext.of_below hb) (hb.mono (J34_4_le hB hst.world))) (fun j _ _ u h => R34_4_ext (Ext.of_below hb) j u h)⟩
  | 10, _, h1, hdep, ho =>
      have g9 : a.eval (.tmp 23) = .string ⟨(Lib.decDigits xz).toArray⟩ := hst.got 9 (hdep 9 (by kernel_rfl))
      have hr : (execOp a.eval (opAt ops34_4 10)).run Tryz.prog w = .ok (.value (.agg #[.int .i64 2, .bool false, .string ⟨(Lib.decDigits xz).toArray⟩, .slice none 0 0, .slice none 0 0])) w := by
        clear hst hdep hd h1 hs ho
        have hk : ∀ v, a.eval (.const v) = v := fun _ => rfl; generalize a.eval = ρ at g9 hk ⊢
        unfold execOp; rw [show (opAt ops34_4 10).op = .build 43 #[(0, .const (.int .i64 2)), (2, .tmp 23)] from by kernel_rfl]; try simp only [g9, hk]
        go_simp
      exact op_value ho (by kernel_rfl) hr (made_val (d := 24) (by kernel_rfl) rfl (J34_4_any _ hst.world) (fun _ _ _ _ h => h))
  | 11, _, h1, hdep, ho =>
      have g3 : a.eval (.tmp 17) = .agg #[.int .i64 3, .bool false, .string xm, .slice none 0 0, .slice none 0 0] := hst.got 3 (hdep 3 (by kernel_rfl))
      have g6 : a.eval (.tmp 20) = .agg #[.int .i64 3, .bool false, .string xn, .slice none 0 0, .slice none 0 0] := hst.got 6 (hdep 6 (by kernel_rfl))
      have g10 : a.eval (.tmp 24) = .agg #[.int .i64 2, .bool false, .string ⟨(Lib.decDigits xz).toArray⟩, .slice none 0 0, .slice none 0 0] := hst.got 10 (hdep 10 (by kernel_rfl))
      have hr : (execOp a.eval (opAt ops34_4 11)).run Tryz.prog w = .ok (.value (.slice (some ⟨w.heap.size, 0, none⟩) 3 3)) (w.alloc (.cells #[.int .i64 3, .bool false, .string xm, .slice none 0 0, .slice none 0 0, .int .i64 3, .bool false, .string xn, .slice none 0 0, .slice none 0 0, .int .i64 2, .bool false, .string ⟨(Lib.decDigits xz).toArray⟩, .slice none 0 0, .slice none 0 0] 43)) := by
        clear hst hdep hd h1 hs ho
        generalize a.eval = ρ at g3 g6 g10 ⊢
        unfold execOp; rw [show (opAt ops34_4 11).op = .buildSlice 41 3 #[(0, .tmp 17), (1, .tmp 20), (2, .tmp 24)] from by kernel_rfl]; try simp only [g3, g6, g10]
        go_simp
      exact op_value ho (by kernel_rfl) hr (made_val (d := 25) (by kernel_rfl) (own_new [.int .i64 3, .bool false, .string xm, .slice none 0 0, .slice none 0 0, .int .i64 3, .bool false, .string xn, .slice none 0 0, .slice none 0 0, .int .i64 2, .bool false, .string ⟨(Lib.decDigits xz).toArray⟩, .slice none 0 0, .slice none 0 0] rfl (J34_4_le hB hst.world) (by decide)) (J34_4_ext _ hst.world (Ext.alloc _ _) ((Below.refl _ _).alloc (J34_4_le hB hst.world) _)) (fun j _ _ u h => R34_4_ext (Ext.alloc _ _) j u h))
  | 12, _, h1, hdep, ho =>
      have ga := hst.got 0 (hdep 0 (by kernel_rfl))
      have gb := hst.got 11 (hdep 11 (by kernel_rfl))
      obtain ⟨V, vc, e1⟩ := own_slice ga
      obtain ⟨U, uc, e2⟩ := own_slice gb
      have e1' : a.eval (.tmp 14) = .slice V 3 vc := e1
      have e2' : a.eval (.tmp 25) = .slice U 3 uc := e2
      have ga' : w.ownsRow B 9 1 (.slice V 3 vc) 3 [.string ⟨#[109, 101, 100, 105, 97, 84, 121, 112, 101]⟩, .string ⟨#[100, 105, 103, 101, 115, 116]⟩, .string ⟨#[115, 105, 122, 101]⟩] := e1' ▸ ga
      have gb' : w.ownsRow B 43 5 (.slice U 3 uc) 3 [.int .i64 3, .bool false, .string xm, .slice none 0 0, .slice none 0 0, .int .i64 3, .bool false, .string xn, .slice none 0 0, .slice none 0 0, .int .i64 2, .bool false, .string ⟨(Lib.decDigits xz).toArray⟩, .slice none 0 0, .slice none 0 0] := e2' ▸ gb
      clear ga gb e1 e2
      have hr : (execOp a.eval (opAt ops34_4 12)).run Tryz.prog w = .ok (.value (.agg #[.int .i64 5, .bool false, .string ⟨#[]⟩, .slice U 3 uc, .slice V 3 vc])) w := by
        clear hst hdep hd h1 hs ho
        clear ga' gb'; have hk : ∀ v, a.eval (.const v) = v := fun _ => rfl; generalize a.eval = ρ at e1' e2' hk ⊢
        unfold execOp; rw [show (opAt ops34_4 12).op = .build 43 #[(0, .const (.int .i64 5)), (4, .tmp 14), (3, .tmp 25)] from by kernel_rfl]; try simp only [e1', e2', hk]
        go_simp
      exact op_value ho (by kernel_rfl) hr (made_val (d := 26) (by kernel_rfl) ⟨U, uc, V, vc, rfl, gb', ga'⟩ (J34_4_any _ hst.world) (fun _ _ _ _ h => h))
  | 13, _, h1, hdep, ho =>
      have hr : (execOp a.eval (opAt ops34_4 13)).run Tryz.prog w = .ok (.value (.pointer (some ⟨w.heap.size, 0, none⟩))) (w.alloc (.cells #[.int .i64 0, .bool false, .string ⟨#[]⟩, .slice none 0 0, .slice none 0 0] 43)) := by
        clear hst hdep hd h1 hs ho
        generalize a.eval = ρ
        unfold execOp; rw [show (opAt ops34_4 13).op = .alloc 43 from by kernel_rfl]
        go_simp
      exact op_value ho (by kernel_rfl) hr (made_val (d := 5) (by kernel_rfl) (⟨_, _, rfl, J34_4_le hB hst.world, rfl, alloc_at rfl⟩) (J34_4_ext _ hst.world (Ext.alloc _ _) ((Below.refl _ _).alloc (J34_4_le hB hst.world) _)) (fun j _ _ u h => R34_4_ext (Ext.alloc _ _) j u h))
  | 14, _, h1, hdep, ho =>
      obtain ⟨b, c, e3, hb1, hb2, hb3⟩ := hst.got 13 (hdep 13 (by kernel_rfl))
      obtain ⟨U, uc, V, vc, e4, hu, hv⟩ := hst.got 12 (hdep 12 (by kernel_rfl))
      have hun := own_ne_blk hu hb3 (.inr (by omega))
      have hvn := own_ne_blk hv hb3 (.inl (by decide))
      have hpb : p ≠ b := fun e => by have h := hst.world.2; rw [e, hb3] at h; simp at h
      have hr := run_whole43 (x := .tmp 5) (y := .tmp 26) (show (opAt ops34_4 14).op = _ from (by kernel_rfl)) e3 e4 hb3 hb2
      refine op_skip ho (by kernel_rfl) hr (made_skip (by kernel_rfl) ⟨b, U, uc, V, vc, e3, hb1, set5_at hb3 hb2 _ _ _ _ _, own_set5 hu hun _ _ _ _ _ _, own_set5 hv hvn _ _ _ _ _ _⟩ ⟨set5_below hst.world.1 hb1 _ _ _ _ _ _, (set5_far _ _ _ _ _ _ _ _ p hpb).trans hst.world.2⟩ ?_)
      intro j hj _ u h
      match j, hj, h with
      | 0, _, h => exact own_set5 h (own_ne_blk h hb3 (.inl (by decide))) _ _ _ _ _ _
      | 1, _, h => exact (show _ = _ from h)
      | 2, _, h => exact (show _ = _ from h)
      | 3, _, h => exact (show _ = _ from h)
      | 4, _, h => exact (show _ = _ from h)
      | 5, _, h => exact (show _ = _ from h)
      | 6, _, h => exact (show _ = _ from h)
      | 7, _, h => exact (show _ = _ from h)
      | 8, _, h => exact (show _ = _ from h)
      | 9, _, h => exact (show _ = _ from h)
      | 10, _, h => exact (show _ = _ from h)
      | 11, _, h => exact own_set5 h (own_ne_blk h hb3 (.inr (by omega))) _ _ _ _ _ _
      | 12, _, h => exact (let ⟨U, uc, V, vc, e, h1, h2⟩ := h; ⟨U, uc, V, vc, e, own_set5 h1 (own_ne_blk h1 hb3 (.inr (by omega))) _ _ _ _ _ _, own_set5 h2 (own_ne_blk h2 hb3 (.inl (by decide))) _ _ _ _ _ _⟩)
      | 13, _, h =>
        obtain ⟨b', c', e, h1, h2, h3⟩ := h
        by_cases hbb : b' = b
        · subst hbb; exact ⟨b', #[_, _, _, _, _], e, h1, rfl, set5_at hb3 hb2 _ _ _ _ _⟩
        · exact ⟨b', c', e, h1, h2, (set5_far _ _ _ _ _ _ _ _ b' hbb).trans h3⟩
      | 14, hj, _ => exact absurd rfl hj
      | _ + 15, _, _ => exact trivial
  | k + 15, hi, _, _, _ => exact absurd hi (by omega)
noncomputable def ops34_7 : Array Oper := (Tryz.f34.body.bind (inCode 7)).getD #[]
def sl34_7 : Nat → Nat
  | 0 => 32
  | 1 => 33
  | 2 => 34
  | 3 => 35
  | 4 => 36
  | 5 => 37
  | 6 => 38
  | 7 => 39
  | 8 => 40
  | 9 => 7
  | 10 => 7
  | _ => 0
def R34_7 (B p : Nat) (xa : ByteArray) (xo : ByteArray) (xv : ByteArray) : Nat → Value → World → Prop
  | 0, v, w => w.ownsRow B 9 1 v 2 [.string ⟨#[111, 115]⟩, .string ⟨#[97, 114, 99, 104, 105, 116, 101, 99, 116, 117, 114, 101]⟩]
  | 1, v, w => v = .pointer (some ⟨p, 1, none⟩)
  | 2, v, w => v = .string xo
  | 3, v, w => v = .agg #[.int .i64 3, .bool false, .string xo, .slice none 0 0, .slice none 0 0]
  | 4, v, w => v = .pointer (some ⟨p, 0, none⟩)
  | 5, v, w => v = .string xa
  | 6, v, w => v = .agg #[.int .i64 3, .bool false, .string xa, .slice none 0 0, .slice none 0 0]
  | 7, v, w => w.ownsRow B 43 5 v 2 [.int .i64 3, .bool false, .string xo, .slice none 0 0, .slice none 0 0, .int .i64 3, .bool false, .string xa, .slice none 0 0, .slice none 0 0]
  | 8, v, w => ∃ U uc V vc, v = .agg #[.int .i64 5, .bool false, .string ⟨#[]⟩, .slice U 2 uc, .slice V 2 vc] ∧ w.ownsRow B 43 5 (.slice U 2 uc) 2 [.int .i64 3, .bool false, .string xo, .slice none 0 0, .slice none 0 0, .int .i64 3, .bool false, .string xa, .slice none 0 0, .slice none 0 0] ∧ w.ownsRow B 9 1 (.slice V 2 vc) 2 [.string ⟨#[111, 115]⟩, .string ⟨#[97, 114, 99, 104, 105, 116, 101, 99, 116, 117, 114, 101]⟩]
  | 9, v, w => ∃ b c, v = .pointer (some ⟨b, 0, none⟩) ∧ B ≤ b ∧ c.size = 5 ∧ w.heap[b]? = some (.cells c 43 (0, 0))
  | 10, v, w => ∃ b U uc V vc, v = .pointer (some ⟨b, 0, none⟩) ∧ B ≤ b ∧ w.heap[b]? = some (.cells #[.int .i64 5, .bool false, .string ⟨#[]⟩, .slice U 2 uc, .slice V 2 vc] 43 (0, 0)) ∧ w.ownsRow B 43 5 (.slice U 2 uc) 2 [.int .i64 3, .bool false, .string xo, .slice none 0 0, .slice none 0 0, .int .i64 3, .bool false, .string xa, .slice none 0 0, .slice none 0 0] ∧ w.ownsRow B 9 1 (.slice V 2 vc) 2 [.string ⟨#[111, 115]⟩, .string ⟨#[97, 114, 99, 104, 105, 116, 101, 99, 116, 117, 114, 101]⟩]
  | _, _, _ => True
theorem R34_7_ext {B p : Nat} {xa : ByteArray} {xo : ByteArray} {xv : ByteArray} {w w' : World} (hx : Ext w w') : ∀ j u, R34_7 B p xa xo xv j u w → R34_7 B p xa xo xv j u w'
  | 0, _, h => own_ext h hx
  | 1, _, h => h
  | 2, _, h => h
  | 3, _, h => h
  | 4, _, h => h
  | 5, _, h => h
  | 6, _, h => h
  | 7, _, h => own_ext h hx
  | 8, _, h => let ⟨U, uc, V, vc, e, h1, h2⟩ := h; ⟨U, uc, V, vc, e, own_ext h1 hx, own_ext h2 hx⟩
  | 9, _, h => let ⟨b, c, e, h1, h2, h3⟩ := h; ⟨b, c, e, h1, h2, blk_ext h3 hx⟩
  | 10, _, h => let ⟨b, U, uc, V, vc, e, h1, h2, h3, h4⟩ := h; ⟨b, U, uc, V, vc, e, h1, blk_ext h2 hx, own_ext h3 hx, own_ext h4 hx⟩
  | _ + 11, _, _ => trivial
def J34_7 (B : Nat) (w0 : World) (p : Nat) (xa : ByteArray) (xo : ByteArray) (xv : ByteArray) (L : Array Bool) (w : World) : Prop := Below B w0 w ∧ w.heap[p]? = some (.cells #[.string xa, .string xo, .string xv] 65 (0, 0))
theorem J34_7_any {B : Nat} {w0 : World} {p : Nat} {xa : ByteArray} {xo : ByteArray} {xv : ByteArray} {L : Array Bool} (L' : Array Bool) {w : World} (h : J34_7 B w0 p xa xo xv L w) : J34_7 B w0 p xa xo xv L' w := ⟨h.1, h.2⟩
theorem J34_7_ext {B : Nat} {w0 : World} {p : Nat} {xa : ByteArray} {xo : ByteArray} {xv : ByteArray} {L : Array Bool} (L' : Array Bool) {w w' : World} (h : J34_7 B w0 p xa xo xv L w) (hx : Ext w w') (hb : Below B w w') : J34_7 B w0 p xa xo xv L' w' := ⟨h.1.trans hb, blk_ext h.2 hx⟩
theorem J34_7_le {B : Nat} {w0 : World} (hB : B ≤ w0.heap.size) {p : Nat} {xa : ByteArray} {xo : ByteArray} {xv : ByteArray} {L : Array Bool} {w : World} (h : J34_7 B w0 p xa xo xv L w) : B ≤ w.heap.size := Nat.le_trans hB h.1.size
set_option maxHeartbeats 1600000 in
theorem reg34_7 {ops : Array Oper} (ho : ops = ops34_7) {Q : Exit → Act → World → Prop} {a0 : Act} {w0 : World} {B p : Nat} {xa : ByteArray} {xo : ByteArray} {xv : ByteArray} (hB : B ≤ w0.heap.size) (hp : w0.heap[p]? = some (.cells #[.string xa, .string xo, .string xv] 65 (0, 0))) (hs6 : a0.eval (.tmp 6) = .pointer (some ⟨p, 0, none⟩)) (hsz : a0.tmps.size = 70)
    (HK : ∀ L a w, J34_7 B w0 p xa xo xv L w → a.defers = a0.defers → a.tmps.size = 70 → (∀ s, freeB ops34_7 s = true → a.eval (.tmp s) = a0.eval (.tmp s)) → (∀ i, i < 11 → R34_7 B p xa xo xv i (a.eval (.tmp (sl34_7 i))) w) → Q .normal a w) : (Code.region 7 ops true).wp Tryz.prog Q a0 w0 := by
  subst ho
  refine region_made (n := 11) (sl := sl34_7) (J := J34_7 B w0 p xa xo xv) (R := R34_7 B p xa xo xv) (by kernel_rfl) (by kernel_rfl) (by kernel_rfl) (by rw [hsz]; kernel_rfl) ?_ ⟨(Below.refl _ _).drew, hp⟩ (fun L a w hall hf => HK L a w hf.world hf.defers (hf.size.trans hsz) hf.rest (fun i hi => hf.got i (hall i hi)))
  intro i hi L a w hs h1 hdep hd hst ho
  clear HK
  match i, hi, h1, hdep, ho with
  | 0, _, h1, hdep, ho =>
      have hr : (execOp a.eval (opAt ops34_7 0)).run Tryz.prog w = .ok (.value (.slice (some ⟨w.heap.size, 0, none⟩) 2 2)) (w.alloc (.cells #[.string ⟨#[111, 115]⟩, .string ⟨#[97, 114, 99, 104, 105, 116, 101, 99, 116, 117, 114, 101]⟩] 9)) := by
        clear hst hdep hd h1 hs ho
        have hk : ∀ v, a.eval (.const v) = v := fun _ => rfl; generalize a.eval = ρ at hk ⊢
        unfold execOp; rw [show (opAt ops34_7 0).op = .buildSlice 25 2 #[(0, .const (.string ⟨#[111, 115]⟩)), (1, .const (.string ⟨#[97, 114, 99, 104, 105, 116, 101, 99, 116, 117, 114, 101]⟩))] from by kernel_rfl]; try simp only [hk]
        go_simp
      exact op_value ho (by kernel_rfl) hr (made_val (d := 32) (by kernel_rfl) (own_new [.string ⟨#[111, 115]⟩, .string ⟨#[97, 114, 99, 104, 105, 116, 101, 99, 116, 117, 114, 101]⟩] rfl (J34_7_le hB hst.world) (by decide)) (J34_7_ext _ hst.world (Ext.alloc _ _) ((Below.refl _ _).alloc (J34_7_le hB hst.world) _)) (fun j _ _ u h => R34_7_ext (Ext.alloc _ _) j u h))
  | 1, _, h1, hdep, ho =>
      have s6 := (hst.rest 6 (by kernel_rfl)).trans hs6
      have hr : (execOp a.eval (opAt ops34_7 1)).run Tryz.prog w = .ok (.value (.pointer (some ⟨p, 1, none⟩))) w := by
        clear hst hdep hd h1 hs ho
        generalize a.eval = ρ at s6 ⊢
        unfold execOp; rw [show (opAt ops34_7 1).op = .fieldAddr 65 (.tmp 6) 1 from by kernel_rfl]; try simp only [s6]
        go_simp
      exact op_value ho (by kernel_rfl) hr (made_val (d := 33) (by kernel_rfl) rfl (J34_7_any _ hst.world) (fun _ _ _ _ h => h))
  | 2, _, h1, hdep, ho =>
      have cp := fun o => cell_of_row w p o _ 65 (0, 0) hst.world.2
      have g1 : a.eval (.tmp 33) = .pointer (some ⟨p, 1, none⟩) := hst.got 1 (hdep 1 (by kernel_rfl))
      have hr : (execOp a.eval (opAt ops34_7 2)).run Tryz.prog w = .ok (.value (.string xo)) w := by
        clear hst hdep hd h1 hs ho
        generalize a.eval = ρ at g1 ⊢
        unfold execOp; rw [show (opAt ops34_7 2).op = .load 9 (.tmp 33) from by kernel_rfl]; try simp only [g1]
        go_simp
      exact op_value ho (by kernel_rfl) hr (made_val (d := 34) (by kernel_rfl) rfl (J34_7_any _ hst.world) (fun _ _ _ _ h => h))
  | 3, _, h1, hdep, ho =>
      have g2 : a.eval (.tmp 34) = .string xo := hst.got 2 (hdep 2 (by kernel_rfl))
      have hr : (execOp a.eval (opAt ops34_7 3)).run Tryz.prog w = .ok (.enter 80 #[.string xo]) w := by
        clear hst hdep hd h1 hs ho
        have hk : ∀ f, a.eval (.func f) = .func (.func f) #[] #[] := fun _ => rfl; generalize a.eval = ρ at g2 hk ⊢
        unfold execOp; rw [show (opAt ops34_7 3).op = .call { callee := .value (.func 80), args := #[.tmp 34], argTypes := #[9] } from by kernel_rfl]; try simp only [g2, hk]
        go_simp
      refine op_call ho (by kernel_rfl) hr ((rtext_of xo w).mono ?_)
      rintro e w'' ⟨rfl, hb⟩
      exact ⟨_, rfl, made_val (d := 35) (by kernel_rfl) rfl (J34_7_ext _ hst.world (Ext.of_below hb) (hb.mono (J34_7_le hB hst.world))) (fun j _ _ u h => R34_7_ext (Ext.of_below hb) j u h)⟩
  | 4, _, h1, hdep, ho =>
      have s6 := (hst.rest 6 (by kernel_rfl)).trans hs6
      have hr : (execOp a.eval (opAt ops34_7 4)).run Tryz.prog w = .ok (.value (.pointer (some ⟨p, 0, none⟩))) w := by
        clear hst hdep hd h1 hs ho
        generalize a.eval = ρ at s6 ⊢
        unfold execOp; rw [show (opAt ops34_7 4).op = .fieldAddr 65 (.tmp 6) 0 from by kernel_rfl]; try simp only [s6]
        go_simp
      exact op_value ho (by kernel_rfl) hr (made_val (d := 36) (by kernel_rfl) rfl (J34_7_any _ hst.world) (fun _ _ _ _ h => h))
  | 5, _, h1, hdep, ho =>
      have cp := fun o => cell_of_row w p o _ 65 (0, 0) hst.world.2
      have g4 : a.eval (.tmp 36) = .pointer (some ⟨p, 0, none⟩) := hst.got 4 (hdep 4 (by kernel_rfl))
      have hr : (execOp a.eval (opAt ops34_7 5)).run Tryz.prog w = .ok (.value (.string xa)) w := by
        clear hst hdep hd h1 hs ho
        generalize a.eval = ρ at g4 ⊢
        unfold execOp; rw [show (opAt ops34_7 5).op = .load 9 (.tmp 36) from by kernel_rfl]; try simp only [g4]
        go_simp
      exact op_value ho (by kernel_rfl) hr (made_val (d := 37) (by kernel_rfl) rfl (J34_7_any _ hst.world) (fun _ _ _ _ h => h))
  | 6, _, h1, hdep, ho =>
      have g5 : a.eval (.tmp 37) = .string xa := hst.got 5 (hdep 5 (by kernel_rfl))
      have hr : (execOp a.eval (opAt ops34_7 6)).run Tryz.prog w = .ok (.enter 80 #[.string xa]) w := by
        clear hst hdep hd h1 hs ho
        have hk : ∀ f, a.eval (.func f) = .func (.func f) #[] #[] := fun _ => rfl; generalize a.eval = ρ at g5 hk ⊢
        unfold execOp; rw [show (opAt ops34_7 6).op = .call { callee := .value (.func 80), args := #[.tmp 37], argTypes := #[9] } from by kernel_rfl]; try simp only [g5, hk]
        go_simp
      refine op_call ho (by kernel_rfl) hr ((rtext_of xa w).mono ?_)
      rintro e w'' ⟨rfl, hb⟩
      exact ⟨_, rfl, made_val (d := 38) (by kernel_rfl) rfl (J34_7_ext _ hst.world (Ext.of_below hb) (hb.mono (J34_7_le hB hst.world))) (fun j _ _ u h => R34_7_ext (Ext.of_below hb) j u h)⟩
  | 7, _, h1, hdep, ho =>
      have g3 : a.eval (.tmp 35) = .agg #[.int .i64 3, .bool false, .string xo, .slice none 0 0, .slice none 0 0] := hst.got 3 (hdep 3 (by kernel_rfl))
      have g6 : a.eval (.tmp 38) = .agg #[.int .i64 3, .bool false, .string xa, .slice none 0 0, .slice none 0 0] := hst.got 6 (hdep 6 (by kernel_rfl))
      have hr : (execOp a.eval (opAt ops34_7 7)).run Tryz.prog w = .ok (.value (.slice (some ⟨w.heap.size, 0, none⟩) 2 2)) (w.alloc (.cells #[.int .i64 3, .bool false, .string xo, .slice none 0 0, .slice none 0 0, .int .i64 3, .bool false, .string xa, .slice none 0 0, .slice none 0 0] 43)) := by
        clear hst hdep hd h1 hs ho
        generalize a.eval = ρ at g3 g6 ⊢
        unfold execOp; rw [show (opAt ops34_7 7).op = .buildSlice 41 2 #[(0, .tmp 35), (1, .tmp 38)] from by kernel_rfl]; try simp only [g3, g6]
        go_simp
      exact op_value ho (by kernel_rfl) hr (made_val (d := 39) (by kernel_rfl) (own_new [.int .i64 3, .bool false, .string xo, .slice none 0 0, .slice none 0 0, .int .i64 3, .bool false, .string xa, .slice none 0 0, .slice none 0 0] rfl (J34_7_le hB hst.world) (by decide)) (J34_7_ext _ hst.world (Ext.alloc _ _) ((Below.refl _ _).alloc (J34_7_le hB hst.world) _)) (fun j _ _ u h => R34_7_ext (Ext.alloc _ _) j u h))
  | 8, _, h1, hdep, ho =>
      have ga := hst.got 0 (hdep 0 (by kernel_rfl))
      have gb := hst.got 7 (hdep 7 (by kernel_rfl))
      obtain ⟨V, vc, e1⟩ := own_slice ga
      obtain ⟨U, uc, e2⟩ := own_slice gb
      have e1' : a.eval (.tmp 32) = .slice V 2 vc := e1
      have e2' : a.eval (.tmp 39) = .slice U 2 uc := e2
      have ga' : w.ownsRow B 9 1 (.slice V 2 vc) 2 [.string ⟨#[111, 115]⟩, .string ⟨#[97, 114, 99, 104, 105, 116, 101, 99, 116, 117, 114, 101]⟩] := e1' ▸ ga
      have gb' : w.ownsRow B 43 5 (.slice U 2 uc) 2 [.int .i64 3, .bool false, .string xo, .slice none 0 0, .slice none 0 0, .int .i64 3, .bool false, .string xa, .slice none 0 0, .slice none 0 0] := e2' ▸ gb
      clear ga gb e1 e2
      have hr : (execOp a.eval (opAt ops34_7 8)).run Tryz.prog w = .ok (.value (.agg #[.int .i64 5, .bool false, .string ⟨#[]⟩, .slice U 2 uc, .slice V 2 vc])) w := by
        clear hst hdep hd h1 hs ho
        clear ga' gb'; have hk : ∀ v, a.eval (.const v) = v := fun _ => rfl; generalize a.eval = ρ at e1' e2' hk ⊢
        unfold execOp; rw [show (opAt ops34_7 8).op = .build 43 #[(0, .const (.int .i64 5)), (4, .tmp 32), (3, .tmp 39)] from by kernel_rfl]; try simp only [e1', e2', hk]
        go_simp
      exact op_value ho (by kernel_rfl) hr (made_val (d := 40) (by kernel_rfl) ⟨U, uc, V, vc, rfl, gb', ga'⟩ (J34_7_any _ hst.world) (fun _ _ _ _ h => h))
  | 9, _, h1, hdep, ho =>
      have hr : (execOp a.eval (opAt ops34_7 9)).run Tryz.prog w = .ok (.value (.pointer (some ⟨w.heap.size, 0, none⟩))) (w.alloc (.cells #[.int .i64 0, .bool false, .string ⟨#[]⟩, .slice none 0 0, .slice none 0 0] 43)) := by
        clear hst hdep hd h1 hs ho
        generalize a.eval = ρ
        unfold execOp; rw [show (opAt ops34_7 9).op = .alloc 43 from by kernel_rfl]
        go_simp
      exact op_value ho (by kernel_rfl) hr (made_val (d := 7) (by kernel_rfl) (⟨_, _, rfl, J34_7_le hB hst.world, rfl, alloc_at rfl⟩) (J34_7_ext _ hst.world (Ext.alloc _ _) ((Below.refl _ _).alloc (J34_7_le hB hst.world) _)) (fun j _ _ u h => R34_7_ext (Ext.alloc _ _) j u h))
  | 10, _, h1, hdep, ho =>
      obtain ⟨b, c, e3, hb1, hb2, hb3⟩ := hst.got 9 (hdep 9 (by kernel_rfl))
      obtain ⟨U, uc, V, vc, e4, hu, hv⟩ := hst.got 8 (hdep 8 (by kernel_rfl))
      have hun := own_ne_blk hu hb3 (.inr (by omega))
      have hvn := own_ne_blk hv hb3 (.inl (by decide))
      have hpb : p ≠ b := fun e => by have h := hst.world.2; rw [e, hb3] at h; simp at h
      have hr := run_whole43 (x := .tmp 7) (y := .tmp 40) (show (opAt ops34_7 10).op = _ from (by kernel_rfl)) e3 e4 hb3 hb2
      refine op_skip ho (by kernel_rfl) hr (made_skip (by kernel_rfl) ⟨b, U, uc, V, vc, e3, hb1, set5_at hb3 hb2 _ _ _ _ _, own_set5 hu hun _ _ _ _ _ _, own_set5 hv hvn _ _ _ _ _ _⟩ ⟨set5_below hst.world.1 hb1 _ _ _ _ _ _, (set5_far _ _ _ _ _ _ _ _ p hpb).trans hst.world.2⟩ ?_)
      intro j hj _ u h
      match j, hj, h with
      | 0, _, h => exact own_set5 h (own_ne_blk h hb3 (.inl (by decide))) _ _ _ _ _ _
      | 1, _, h => exact (show _ = _ from h)
      | 2, _, h => exact (show _ = _ from h)
      | 3, _, h => exact (show _ = _ from h)
      | 4, _, h => exact (show _ = _ from h)
      | 5, _, h => exact (show _ = _ from h)
      | 6, _, h => exact (show _ = _ from h)
      | 7, _, h => exact own_set5 h (own_ne_blk h hb3 (.inr (by omega))) _ _ _ _ _ _
      | 8, _, h => exact (let ⟨U, uc, V, vc, e, h1, h2⟩ := h; ⟨U, uc, V, vc, e, own_set5 h1 (own_ne_blk h1 hb3 (.inr (by omega))) _ _ _ _ _ _, own_set5 h2 (own_ne_blk h2 hb3 (.inl (by decide))) _ _ _ _ _ _⟩)
      | 9, _, h =>
        obtain ⟨b', c', e, h1, h2, h3⟩ := h
        by_cases hbb : b' = b
        · subst hbb; exact ⟨b', #[_, _, _, _, _], e, h1, rfl, set5_at hb3 hb2 _ _ _ _ _⟩
        · exact ⟨b', c', e, h1, h2, (set5_far _ _ _ _ _ _ _ _ b' hbb).trans h3⟩
      | 10, hj, _ => exact absurd rfl hj
      | _ + 11, _, _ => exact trivial
  | k + 11, hi, _, _, _ => exact absurd hi (by omega)
end Go.Proofs.YtoimjnmhinfbkaaGreatDoor
