import Derived.Test.YtoimjnmhinfbkaaGreatDoorS17
import Derived.Test.YtoimjnmhinfbkaaGreatDoorS18
namespace Go.Proofs.YtoimjnmhinfbkaaGreatDoor
open Go.RowKit
set_option maxRecDepth 100000
/-! the law's regions that draw their order. -/
abbrev DocBl := List (ByteArray × ByteArray)
theorem Pairs.ext {w w' : World} {A : Option Addr} {l : List (ByteArray × Value)} (h : Pairs w A l) (hx : Ext w w') : Pairs w' A l := by
 rcases h with rfl | ⟨b, o, h1, h2⟩
 ·exact .inl rfl
 ·exact .inr ⟨b, o, h1, fun j hj => ⟨cell_extn (h2 j hj).1 hx, cell_extn (h2 j hj).2 hx⟩⟩
theorem BytesOk.ext {w w' : World} {A : Option Addr} {cap : Nat} {l : List Nat} (h : BytesOk w A cap l) (hx : Ext w w') : BytesOk w' A cap l := by
 refine ⟨h.nil, h.le, h.by', ?_⟩
 rcases h.at' with h0 | ⟨a, ha, h0⟩
 ·exact .inl h0
 ·exact .inr ⟨a, ha, fun j hj => cell_extn (h0 j hj) hx⟩
theorem StoreAt.ext {w w' : World} {S : Option Addr} {bs : List Bl} (h : StoreAt w S bs) (hx : Ext w w') : StoreAt w' S bs := ⟨h.pairs.ext hx, fun b hb => (h.ok b hb).ext hx⟩
theorem keepB {B : Nat} {w0 w : World} (h : Below B w0 w) (hB : w0.heap.size ≤ B) : Below w0.heap.size w0 w := h.mono hB
def dStr (r : Except Int (List Nat)) : ByteArray := match r with
 | .error _ => ⟨#[]⟩
 | .ok d => strN d
def dNum (r : Except Int (List Nat)) : Int := match r with
 | .error c => c
 | .ok _ => 0
theorem GotD.val {r : Except Int (List Nat)} {w : World} {e : Ending} {w' : World} (h : GotD r w e w') : e = .returned (.tuple #[.string (dStr r), .int .i64 (dNum r)]) ∧ Below w.heap.size w w' := by
 cases r with
 | error c => exact ⟨h.1, h.2⟩
 | ok d => exact ⟨h.1, h.2⟩
noncomputable def ops7_6 : Array Oper := (Tryz.f7.body.bind (inCode 6)).getD #[]
def sl7_6 : Nat → Nat
 | 0 => 34
 | 1 => 35
 | 2 => 36
 | 3 => 37
 | 4 => 38
 | 5 => 39
 | 6 => 40
 | 7 => 41
 | 8 => 42
 | _ => 0
def R7_6 (B : Nat) (p4 : Nat) (p7 : Nat) (m : ByteArray) (n : ByteArray) (z : Int) (da : ByteArray) (dp : ByteArray) (dv : ByteArray) (nb : ByteArray) (l : List Nat) (A : Option Addr) (cap : Nat) : Nat → Value → World → Prop
 | 0, v, w => v = .agg #[.string m, .string nb, .int .i64 (l.length : Int), .string ⟨#[]⟩, .string ⟨#[]⟩, .string ⟨#[]⟩]
 | 1, v, w => v = .pointer (some ⟨p4, 0, none⟩)
 | 2, v, w => v = .string m
 | 3, v, w => v = .slice A l.length cap
 | 4, v, w => v = .string nb
 | 5, v, w => v = .slice A l.length cap
 | 6, v, w => v = .int .i64 (l.length : Int)
 | 7, v, w => v = .agg #[.string m, .string nb, .int .i64 (l.length : Int), .string ⟨#[]⟩, .string ⟨#[]⟩, .string ⟨#[]⟩]
 | 8, v, w => v = .bool false
 | _, _, _ => True
theorem R7_6_ext {B : Nat} {p4 : Nat} {p7 : Nat} {m : ByteArray} {n : ByteArray} {z : Int} {da : ByteArray} {dp : ByteArray} {dv : ByteArray} {nb : ByteArray} {l : List Nat} {A : Option Addr} {cap : Nat} {w w' : World} (hx : Ext w w') : ∀ j u, R7_6 B p4 p7 m n z da dp dv nb l A cap j u w → R7_6 B p4 p7 m n z da dp dv nb l A cap j u w'
 | 0, _, h => h
 | 1, _, h => h
 | 2, _, h => h
 | 3, _, h => h
 | 4, _, h => h
 | 5, _, h => h
 | 6, _, h => h
 | 7, _, h => h
 | 8, _, h => h
 | _ + 9, _, _ => trivial
def J7_6 (B : Nat) (w0 : World) (p4 : Nat) (p7 : Nat) (m : ByteArray) (n : ByteArray) (z : Int) (da : ByteArray) (dp : ByteArray) (dv : ByteArray) (nb : ByteArray) (l : List Nat) (A : Option Addr) (cap : Nat) (L : Array Bool) (w : World) : Prop := Below B w0 w
theorem J7_6_any {B : Nat} {w0 : World} {p4 : Nat} {p7 : Nat} {m : ByteArray} {n : ByteArray} {z : Int} {da : ByteArray} {dp : ByteArray} {dv : ByteArray} {nb : ByteArray} {l : List Nat} {A : Option Addr} {cap : Nat} {L : Array Bool} (L' : Array Bool) {w : World} (h : J7_6 B w0 p4 p7 m n z da dp dv nb l A cap L w) : J7_6 B w0 p4 p7 m n z da dp dv nb l A cap L' w := h
theorem J7_6_ext {B : Nat} {w0 : World} {p4 : Nat} {p7 : Nat} {m : ByteArray} {n : ByteArray} {z : Int} {da : ByteArray} {dp : ByteArray} {dv : ByteArray} {nb : ByteArray} {l : List Nat} {A : Option Addr} {cap : Nat} {L : Array Bool} (L' : Array Bool) {w w' : World} (h : J7_6 B w0 p4 p7 m n z da dp dv nb l A cap L w) (hx : Ext w w') (hb : Below B w w') : J7_6 B w0 p4 p7 m n z da dp dv nb l A cap L' w' := Below.trans h hb
theorem J7_6_le {B : Nat} {w0 : World} (hB : B ≤ w0.heap.size) {p4 : Nat} {p7 : Nat} {m : ByteArray} {n : ByteArray} {z : Int} {da : ByteArray} {dp : ByteArray} {dv : ByteArray} {nb : ByteArray} {l : List Nat} {A : Option Addr} {cap : Nat} {L : Array Bool} {w : World} (h : J7_6 B w0 p4 p7 m n z da dp dv nb l A cap L w) : B ≤ w.heap.size := Nat.le_trans hB (Below.size h)
set_option maxHeartbeats 1600000 in
theorem reg7_6 {ops : Array Oper} (ho : ops = ops7_6) {Q : Exit → Act → World → Prop} {a0 : Act} {w0 : World} {B : Nat} {p4 : Nat} {p7 : Nat} {m : ByteArray} {n : ByteArray} {z : Int} {da : ByteArray} {dp : ByteArray} {dv : ByteArray} {nb : ByteArray} {l : List Nat} {A : Option Addr} {cap : Nat} (hB : B ≤ w0.heap.size) (hB2 : w0.heap.size ≤ B) (hp4 : w0.heap[p4]? = some (.cells #[.string m, .string n, .int .i64 z, .string da, .string dp, .string dv] 62 (0, 0))) (hl4 : p4 < B) (hp7 : w0.heap[p7]? = some (.cells #[.string m, .string nb, .int .i64 (l.length : Int), .string ⟨#[]⟩, .string ⟨#[]⟩, .string ⟨#[]⟩] 62 (0, 0))) (hl7 : p7 < B) (hb : BytesOk w0 A cap l) (hn : l.length ≤ 100000000) (hnb : nb = ⟨(nmL l).toArray⟩) (hs4 : a0.eval (.tmp 4) = .pointer (some ⟨p4, 0, none⟩)) (hs7 : a0.eval (.tmp 7) = .pointer (some ⟨p7, 0, none⟩)) (hs2 : a0.eval (.tmp 2) = .slice A l.length cap) (hsz : a0.tmps.size = 92)
  (HK : ∀ L a w, J7_6 B w0 p4 p7 m n z da dp dv nb l A cap L w → a.defers = a0.defers → a.tmps.size = 92 → (∀ s, freeB ops7_6 s = true → a.eval (.tmp s) = a0.eval (.tmp s)) → (∀ i, i < 9 → R7_6 B p4 p7 m n z da dp dv nb l A cap i (a.eval (.tmp (sl7_6 i))) w) → Q .normal a w) : (Code.region 6 ops true).wp Tryz.prog Q a0 w0 := by
 subst ho
 refine region_made (n := 9) (sl := sl7_6) (J := J7_6 B w0 p4 p7 m n z da dp dv nb l A cap) (R := R7_6 B p4 p7 m n z da dp dv nb l A cap) (by kernel_rfl) (by kernel_rfl) (by kernel_rfl) (by rw [hsz]; kernel_rfl) ?_ (Below.refl _ _).drew (fun L a w hall hf => HK L a w hf.world hf.defers (hf.size.trans hsz) hf.rest (fun i hi => hf.got i (hall i hi)))
 intro i hi L a w hs h1 hdep hd hst ho
 clear HK
 match i, hi, h1, hdep, ho with
 | 0, _, h1, hdep, ho =>
   have c7 := fun o => cell_of_row w p7 o _ 62 (0, 0) ((Below.block hst.world p7 hl7).trans hp7)
   have s7 := (hst.rest 7 (by kernel_rfl)).trans hs7
   have hr : (execOp a.eval (opAt ops7_6 0)).run Tryz.prog w = .ok (.value (.agg #[.string m, .string nb, .int .i64 (l.length : Int), .string ⟨#[]⟩, .string ⟨#[]⟩, .string ⟨#[]⟩])) w := by
    clear hst hdep hd h1 hs ho
    generalize a.eval = ρ at s7 ⊢
    unfold execOp; rw [show (opAt ops7_6 0).op = .load 62 (.tmp 7) from by kernel_rfl]; try simp only [s7]
    go_simp
   exact op_value ho (by kernel_rfl) hr (made_val (d := 34) (by kernel_rfl) rfl (J7_6_any _ hst.world) (fun _ _ _ _ h => h))
 | 1, _, h1, hdep, ho =>
   have s4 := (hst.rest 4 (by kernel_rfl)).trans hs4
   have hr : (execOp a.eval (opAt ops7_6 1)).run Tryz.prog w = .ok (.value (.pointer (some ⟨p4, 0, none⟩))) w := by
    clear hst hdep hd h1 hs ho
    generalize a.eval = ρ at s4 ⊢
    unfold execOp; rw [show (opAt ops7_6 1).op = .fieldAddr 62 (.tmp 4) 0 from by kernel_rfl]; try simp only [s4]
    go_simp
   exact op_value ho (by kernel_rfl) hr (made_val (d := 35) (by kernel_rfl) rfl (J7_6_any _ hst.world) (fun _ _ _ _ h => h))
 | 2, _, h1, hdep, ho =>
   have c4 := fun o => cell_of_row w p4 o _ 62 (0, 0) ((Below.block hst.world p4 hl4).trans hp4)
   have g1 : a.eval (.tmp 35) = .pointer (some ⟨p4, 0, none⟩) := hst.got 1 (hdep 1 (by kernel_rfl))
   have hr : (execOp a.eval (opAt ops7_6 2)).run Tryz.prog w = .ok (.value (.string m)) w := by
    clear hst hdep hd h1 hs ho
    generalize a.eval = ρ at g1 ⊢
    unfold execOp; rw [show (opAt ops7_6 2).op = .load 9 (.tmp 35) from by kernel_rfl]; try simp only [g1]
    go_simp
   exact op_value ho (by kernel_rfl) hr (made_val (d := 36) (by kernel_rfl) rfl (J7_6_any _ hst.world) (fun _ _ _ _ h => h))
 | 3, _, h1, hdep, ho =>
   have s2 := (hst.rest 2 (by kernel_rfl)).trans hs2
   have hr : (execOp a.eval (opAt ops7_6 3)).run Tryz.prog w = .ok (.value (.slice A l.length cap)) w := by
    clear hst hdep hd h1 hs ho
    generalize a.eval = ρ at s2 ⊢
    unfold execOp; rw [show (opAt ops7_6 3).op = .move (.tmp 2) from by kernel_rfl]; try simp only [s2]
    go_simp
   exact op_value ho (by kernel_rfl) hr (made_val (d := 37) (by kernel_rfl) rfl (J7_6_any _ hst.world) (fun _ _ _ _ h => h))
 | 4, _, h1, hdep, ho =>
   have g3 : a.eval (.tmp 37) = .slice A l.length cap := hst.got 3 (hdep 3 (by kernel_rfl))
   have hbk := hb.keep (keepB hst.world hB2)
   have hr : (execOp a.eval (opAt ops7_6 4)).run Tryz.prog w = .ok (.enter 39 #[.slice A l.length cap]) w := by
    clear hst hdep hd h1 hs ho
    have hk : ∀ f, a.eval (.func f) = .func (.func f) #[] #[] := fun _ => rfl; generalize a.eval = ρ at g3 hk ⊢
    unfold execOp; rw [show (opAt ops7_6 4).op = .call { callee := .value (.func 39), args := #[.tmp 37], argTypes := #[87] } from by kernel_rfl]; try simp only [g3, hk]
    go_simp
   refine op_call ho (by kernel_rfl) hr ((docName_any l A cap w hbk.by' hn hbk.nil hbk.le hbk.at').mono ?_)
   rintro e w'' ⟨rfl, hbb⟩
   exact ⟨_, rfl, made_val (d := 38) (by kernel_rfl) (congrArg Value.string hnb.symm) (J7_6_ext _ hst.world (Ext.of_below hbb) (hbb.mono (J7_6_le hB hst.world))) (fun j _ _ u h => R7_6_ext (Ext.of_below hbb) j u h)⟩
 | 5, _, h1, hdep, ho =>
   have s2 := (hst.rest 2 (by kernel_rfl)).trans hs2
   have hr : (execOp a.eval (opAt ops7_6 5)).run Tryz.prog w = .ok (.value (.slice A l.length cap)) w := by
    clear hst hdep hd h1 hs ho
    generalize a.eval = ρ at s2 ⊢
    unfold execOp; rw [show (opAt ops7_6 5).op = .move (.tmp 2) from by kernel_rfl]; try simp only [s2]
    go_simp
   exact op_value ho (by kernel_rfl) hr (made_val (d := 39) (by kernel_rfl) rfl (J7_6_any _ hst.world) (fun _ _ _ _ h => h))
 | 6, _, h1, hdep, ho =>
   have g5 : a.eval (.tmp 39) = .slice A l.length cap := hst.got 5 (hdep 5 (by kernel_rfl))
   have hr : (execOp a.eval (opAt ops7_6 6)).run Tryz.prog w = .ok (.value (.int .i64 (l.length : Int))) w := by
    clear hst hdep hd h1 hs ho
    generalize a.eval = ρ at g5 ⊢
    unfold execOp; rw [show (opAt ops7_6 6).op = .call { callee := .builtin .len, args := #[.tmp 39], argTypes := #[87] } from by kernel_rfl]; try simp only [g5]
    go_simp
   exact op_value ho (by kernel_rfl) hr (made_val (d := 40) (by kernel_rfl) rfl (J7_6_any _ hst.world) (fun _ _ _ _ h => h))
 | 7, _, h1, hdep, ho =>
   have g2 : a.eval (.tmp 36) = .string m := hst.got 2 (hdep 2 (by kernel_rfl))
   have g4 : a.eval (.tmp 38) = .string nb := hst.got 4 (hdep 4 (by kernel_rfl))
   have g6 : a.eval (.tmp 40) = .int .i64 (l.length : Int) := hst.got 6 (hdep 6 (by kernel_rfl))
   have hr : (execOp a.eval (opAt ops7_6 7)).run Tryz.prog w = .ok (.value (.agg #[.string m, .string nb, .int .i64 (l.length : Int), .string ⟨#[]⟩, .string ⟨#[]⟩, .string ⟨#[]⟩])) w := by
    clear hst hdep hd h1 hs ho
    generalize a.eval = ρ at g2 g4 g6 ⊢
    unfold execOp; rw [show (opAt ops7_6 7).op = .build 62 #[(0, .tmp 36), (1, .tmp 38), (2, .tmp 40)] from by kernel_rfl]; try simp only [g2, g4, g6]
    go_simp
   exact op_value ho (by kernel_rfl) hr (made_val (d := 41) (by kernel_rfl) rfl (J7_6_any _ hst.world) (fun _ _ _ _ h => h))
 | 8, _, h1, hdep, ho =>
   have g0 : a.eval (.tmp 34) = .agg #[.string m, .string nb, .int .i64 (l.length : Int), .string ⟨#[]⟩, .string ⟨#[]⟩, .string ⟨#[]⟩] := hst.got 0 (hdep 0 (by kernel_rfl))
   have g7 : a.eval (.tmp 41) = .agg #[.string m, .string nb, .int .i64 (l.length : Int), .string ⟨#[]⟩, .string ⟨#[]⟩, .string ⟨#[]⟩] := hst.got 7 (hdep 7 (by kernel_rfl))
   have hr : (execOp a.eval (opAt ops7_6 8)).run Tryz.prog w = .ok (.value (.bool false)) w := by
    clear hst hdep hd h1 hs ho
    generalize a.eval = ρ at g0 g7 ⊢
    unfold execOp; rw [show (opAt ops7_6 8).op = .binOp .neq 62 (.tmp 34) (.tmp 41) 62 from by kernel_rfl]; try simp only [g0, g7]
    go_simp
   exact op_value ho (by kernel_rfl) hr (made_val (d := 42) (by kernel_rfl) rfl (J7_6_any _ hst.world) (fun _ _ _ _ h => h))
 | k + 9, hi, _, _, _ => exact absurd hi (by omega)
set_option maxHeartbeats 3200000 in
theorem turn7_6 {x0 x1 x2 x3 x4 x5 x6 x7 x8 x9 x10 x11 x12 x13 x14 x15 x16 x17 x18 x19 x20 x21 x22 x23 x24 x25 x26 x27 x28 x29 x30 x31 x32 x33 x34 x35 x36 x37 x38 x39 x40 x41 x42 x43 x44 x45 x46 x47 x48 x49 x50 x51 x52 x53 x54 x55 x56 x57 x58 x59 x60 x61 x62 x63 x64 x65 x66 x67 x68 x69 x70 x71 x72 x73 x74 x75 x76 x77 x78 x79 x80 x81 x82 x83 x84 x85 x86 x87 x88 x89 x90 x91 z42 : Value} {D : _} {a : Act} (hl : Left 92 ops7_6 a (Act.mk #[x0, x1, x2, x3, x4, x5, x6, x7, x8, x9, x10, x11, x12, x13, x14, x15, x16, x17, x18, x19, x20, x21, x22, x23, x24, x25, x26, x27, x28, x29, x30, x31, x32, x33, x34, x35, x36, x37, x38, x39, x40, x41, x42, x43, x44, x45, x46, x47, x48, x49, x50, x51, x52, x53, x54, x55, x56, x57, x58, x59, x60, x61, x62, x63, x64, x65, x66, x67, x68, x69, x70, x71, x72, x73, x74, x75, x76, x77, x78, x79, x80, x81, x82, x83, x84, x85, x86, x87, x88, x89, x90, x91] D)) (h42 : a.eval (.tmp 42) = z42) : ∃ z34 z35 z36 z37 z38 z39 z40 z41, a = ⟨#[x0, x1, x2, x3, x4, x5, x6, x7, x8, x9, x10, x11, x12, x13, x14, x15, x16, x17, x18, x19, x20, x21, x22, x23, x24, x25, x26, x27, x28, x29, x30, x31, x32, x33, z34, z35, z36, z37, z38, z39, z40, z41, z42, x43, x44, x45, x46, x47, x48, x49, x50, x51, x52, x53, x54, x55, x56, x57, x58, x59, x60, x61, x62, x63, x64, x65, x66, x67, x68, x69, x70, x71, x72, x73, x74, x75, x76, x77, x78, x79, x80, x81, x82, x83, x84, x85, x86, x87, x88, x89, x90, x91], D⟩ := by
 subst h42
 exact ⟨a.eval (.tmp 34), a.eval (.tmp 35), a.eval (.tmp 36), a.eval (.tmp 37), a.eval (.tmp 38), a.eval (.tmp 39), a.eval (.tmp 40), a.eval (.tmp 41), (turn_gen [34, 35, 36, 37, 38, 39, 40, 41, 42] (by kernel_rfl) (by kernel_rfl) hl.1 hl.2.1 hl.2.2).trans (by kernel_rfl)⟩
theorem doc_keys {bs : List Bl} (h : ∀ b ∈ bs, ∀ x ∈ b.dat, x < 256) : (bs.map Bl.doc).map dkey = bs.map Bl.key := by
 rw [List.map_map]
 refine List.map_congr_left fun b hb => ?_
 simp only [Function.comp, Bl.doc, dkey, Bl.key, bytesN_strN (h b hb)]
noncomputable def ops7_9 : Array Oper := (Tryz.f7.body.bind (inCode 9)).getD #[]
def sl7_9 : Nat → Nat
 | 0 => 50
 | 1 => 51
 | 2 => 52
 | 3 => 53
 | 4 => 54
 | 5 => 49
 | 6 => 55
 | 7 => 56
 | 8 => 10
 | 9 => 11
 | _ => 0
def R7_9 (B : Nat) (p4 : Nat) (m : ByteArray) (n : ByteArray) (z : Int) (da : ByteArray) (dp : ByteArray) (dv : ByteArray) (bs : List Bl) (S : Option Addr) (cap : Nat) : Nat → Value → World → Prop
 | 0, v, w => v = .slice S bs.length cap
 | 1, v, w => ∃ (S' : Option Addr) (c' : Nat), v = .slice S' bs.length c' ∧ Pairs w S' ((bs.map Bl.doc).map dpair)
 | 2, v, w => v = .agg #[.string m, .string n, .int .i64 z, .string da, .string dp, .string dv]
 | 3, v, w => v = .agg #[.string m, .string n, .int .i64 z, .string da, .string dp, .string dv]
 | 4, v, w => v = .tuple #[.string (dStr (fetchA (bs.map Bl.key) n z)), .int .i64 (dNum (fetchA (bs.map Bl.key) n z))]
 | 5, v, w => v = .tuple #[.string (dStr (fetchA (bs.map Bl.key) n z)), .int .i64 (dNum (fetchA (bs.map Bl.key) n z))]
 | 6, v, w => v = .string (dStr (fetchA (bs.map Bl.key) n z))
 | 7, v, w => v = .int .i64 (dNum (fetchA (bs.map Bl.key) n z))
 | 8, v, w => v = .string (dStr (fetchA (bs.map Bl.key) n z))
 | 9, v, w => v = .int .i64 (dNum (fetchA (bs.map Bl.key) n z))
 | _, _, _ => True
theorem R7_9_ext {B : Nat} {p4 : Nat} {m : ByteArray} {n : ByteArray} {z : Int} {da : ByteArray} {dp : ByteArray} {dv : ByteArray} {bs : List Bl} {S : Option Addr} {cap : Nat} {w w' : World} (hx : Ext w w') : ∀ j u, R7_9 B p4 m n z da dp dv bs S cap j u w → R7_9 B p4 m n z da dp dv bs S cap j u w'
 | 0, _, h => h
 | 1, _, h => let ⟨S', c', e, h1⟩ := h; ⟨S', c', e, h1.ext hx⟩
 | 2, _, h => h
 | 3, _, h => h
 | 4, _, h => h
 | 5, _, h => h
 | 6, _, h => h
 | 7, _, h => h
 | 8, _, h => h
 | 9, _, h => h
 | _ + 10, _, _ => trivial
def J7_9 (B : Nat) (w0 : World) (p4 : Nat) (m : ByteArray) (n : ByteArray) (z : Int) (da : ByteArray) (dp : ByteArray) (dv : ByteArray) (bs : List Bl) (S : Option Addr) (cap : Nat) (L : Array Bool) (w : World) : Prop := Below B w0 w
theorem J7_9_any {B : Nat} {w0 : World} {p4 : Nat} {m : ByteArray} {n : ByteArray} {z : Int} {da : ByteArray} {dp : ByteArray} {dv : ByteArray} {bs : List Bl} {S : Option Addr} {cap : Nat} {L : Array Bool} (L' : Array Bool) {w : World} (h : J7_9 B w0 p4 m n z da dp dv bs S cap L w) : J7_9 B w0 p4 m n z da dp dv bs S cap L' w := h
theorem J7_9_ext {B : Nat} {w0 : World} {p4 : Nat} {m : ByteArray} {n : ByteArray} {z : Int} {da : ByteArray} {dp : ByteArray} {dv : ByteArray} {bs : List Bl} {S : Option Addr} {cap : Nat} {L : Array Bool} (L' : Array Bool) {w w' : World} (h : J7_9 B w0 p4 m n z da dp dv bs S cap L w) (hx : Ext w w') (hb : Below B w w') : J7_9 B w0 p4 m n z da dp dv bs S cap L' w' := Below.trans h hb
theorem J7_9_le {B : Nat} {w0 : World} (hB : B ≤ w0.heap.size) {p4 : Nat} {m : ByteArray} {n : ByteArray} {z : Int} {da : ByteArray} {dp : ByteArray} {dv : ByteArray} {bs : List Bl} {S : Option Addr} {cap : Nat} {L : Array Bool} {w : World} (h : J7_9 B w0 p4 m n z da dp dv bs S cap L w) : B ≤ w.heap.size := Nat.le_trans hB (Below.size h)
set_option maxHeartbeats 1600000 in
theorem reg7_9 {ops : Array Oper} (ho : ops = ops7_9) {Q : Exit → Act → World → Prop} {a0 : Act} {w0 : World} {B : Nat} {p4 : Nat} {m : ByteArray} {n : ByteArray} {z : Int} {da : ByteArray} {dp : ByteArray} {dv : ByteArray} {bs : List Bl} {S : Option Addr} {cap : Nat} (hB : B ≤ w0.heap.size) (hB2 : w0.heap.size ≤ B) (hp4 : w0.heap[p4]? = some (.cells #[.string m, .string n, .int .i64 z, .string da, .string dp, .string dv] 62 (0, 0))) (hl4 : p4 < B) (hsr : StoreAt w0 S bs) (hn : bs.length ≤ 20) (hbig : ∀ b ∈ bs, b.dat.length ≤ 3000) (hs4 : a0.eval (.tmp 4) = .pointer (some ⟨p4, 0, none⟩)) (hs0 : a0.eval (.tmp 0) = .slice S bs.length cap) (hsz : a0.tmps.size = 92)
  (HK : ∀ L a w, J7_9 B w0 p4 m n z da dp dv bs S cap L w → a.defers = a0.defers → a.tmps.size = 92 → (∀ s, freeB ops7_9 s = true → a.eval (.tmp s) = a0.eval (.tmp s)) → (∀ i, i < 10 → R7_9 B p4 m n z da dp dv bs S cap i (a.eval (.tmp (sl7_9 i))) w) → Q .normal a w) : (Code.region 9 ops true).wp Tryz.prog Q a0 w0 := by
 subst ho
 refine region_made (n := 10) (sl := sl7_9) (J := J7_9 B w0 p4 m n z da dp dv bs S cap) (R := R7_9 B p4 m n z da dp dv bs S cap) (by kernel_rfl) (by kernel_rfl) (by kernel_rfl) (by rw [hsz]; kernel_rfl) ?_ (Below.refl _ _).drew (fun L a w hall hf => HK L a w hf.world hf.defers (hf.size.trans hsz) hf.rest (fun i hi => hf.got i (hall i hi)))
 intro i hi L a w hs h1 hdep hd hst ho
 clear HK
 match i, hi, h1, hdep, ho with
 | 0, _, h1, hdep, ho =>
   have s0 := (hst.rest 0 (by kernel_rfl)).trans hs0
   have hr : (execOp a.eval (opAt ops7_9 0)).run Tryz.prog w = .ok (.value (.slice S bs.length cap)) w := by
    clear hst hdep hd h1 hs ho
    generalize a.eval = ρ at s0 ⊢
    unfold execOp; rw [show (opAt ops7_9 0).op = .move (.tmp 0) from by kernel_rfl]; try simp only [s0]
    go_simp
   exact op_value ho (by kernel_rfl) hr (made_val (d := 50) (by kernel_rfl) rfl (J7_9_any _ hst.world) (fun _ _ _ _ h => h))
 | 1, _, h1, hdep, ho =>
   have g0 : a.eval (.tmp 50) = .slice S bs.length cap := hst.got 0 (hdep 0 (by kernel_rfl))
   have hsk := hsr.keep (keepB hst.world hB2)
   have hr : (execOp a.eval (opAt ops7_9 1)).run Tryz.prog w = .ok (.enter 42 #[.slice S bs.length cap]) w := by
    clear hst hdep hd h1 hs ho
    have hk : ∀ f, a.eval (.func f) = .func (.func f) #[] #[] := fun _ => rfl; generalize a.eval = ρ at g0 hk ⊢
    unfold execOp; rw [show (opAt ops7_9 1).op = .call { callee := .value (.func 42), args := #[.tmp 50], argTypes := #[86] } from by kernel_rfl]; try simp only [g0, hk]
    go_simp
   refine op_call ho (by kernel_rfl) hr ((document22 bs S cap w hsk (by omega)).mono ?_)
   rintro e w'' ⟨⟨S', c', rfl, hpp, -, -⟩, hbb⟩
   exact ⟨_, rfl, made_val (d := 51) (by kernel_rfl) ⟨S', c', rfl, hpp⟩ (J7_9_ext _ hst.world (Ext.of_below hbb) (hbb.mono (J7_9_le hB hst.world))) (fun j _ _ u h => R7_9_ext (Ext.of_below hbb) j u h)⟩
 | 2, _, h1, hdep, ho =>
   have c4 := fun o => cell_of_row w p4 o _ 62 (0, 0) ((Below.block hst.world p4 hl4).trans hp4)
   have s4 := (hst.rest 4 (by kernel_rfl)).trans hs4
   have hr : (execOp a.eval (opAt ops7_9 2)).run Tryz.prog w = .ok (.value (.agg #[.string m, .string n, .int .i64 z, .string da, .string dp, .string dv])) w := by
    clear hst hdep hd h1 hs ho
    generalize a.eval = ρ at s4 ⊢
    unfold execOp; rw [show (opAt ops7_9 2).op = .load 62 (.tmp 4) from by kernel_rfl]; try simp only [s4]
    go_simp
   exact op_value ho (by kernel_rfl) hr (made_val (d := 52) (by kernel_rfl) rfl (J7_9_any _ hst.world) (fun _ _ _ _ h => h))
 | 3, _, h1, hdep, ho =>
   have g2 : a.eval (.tmp 52) = .agg #[.string m, .string n, .int .i64 z, .string da, .string dp, .string dv] := hst.got 2 (hdep 2 (by kernel_rfl))
   have hr : (execOp a.eval (opAt ops7_9 3)).run Tryz.prog w = .ok (.enter 26 #[.agg #[.string m, .string n, .int .i64 z, .string da, .string dp, .string dv]]) w := by
    clear hst hdep hd h1 hs ho
    have hk : ∀ f, a.eval (.func f) = .func (.func f) #[] #[] := fun _ => rfl; generalize a.eval = ρ at g2 hk ⊢
    unfold execOp; rw [show (opAt ops7_9 3).op = .call { callee := .value (.func 26), args := #[.tmp 52], argTypes := #[62] } from by kernel_rfl]; try simp only [g2, hk]
    go_simp
   refine op_call ho (by kernel_rfl) hr ((doc_desc m n z da dp dv w).mono ?_)
   rintro e w'' ⟨rfl, hbb⟩
   exact ⟨_, rfl, made_val (d := 53) (by kernel_rfl) rfl (J7_9_ext _ hst.world (Ext.of_below hbb) (hbb.mono (J7_9_le hB hst.world))) (fun j _ _ u h => R7_9_ext (Ext.of_below hbb) j u h)⟩
 | 4, _, h1, hdep, ho =>
   obtain ⟨S', c', e1, hpp⟩ := hst.got 1 (hdep 1 (by kernel_rfl))
   have g1 : a.eval (.tmp 51) = .slice S' bs.length c' := e1
   clear e1
   have g3 : a.eval (.tmp 53) = .agg #[.string m, .string n, .int .i64 z, .string da, .string dp, .string dv] := hst.got 3 (hdep 3 (by kernel_rfl))
   have hdf := dfetch_any (bs.map Bl.doc) m n z da dp dv S' c' w hpp (by rw [List.length_map]; omega) (fun x hx => by obtain ⟨y, hy, rfl⟩ := List.mem_map.1 hx; have := hbig y hy; simp only [Bl.doc, strN_size]; omega)
   rw [List.length_map, doc_keys (fun y hy => (hsr.ok y hy).by')] at hdf
   have hr : (execOp a.eval (opAt ops7_9 4)).run Tryz.prog w = .ok (.enter 41 #[.slice S' bs.length c', .agg #[.string m, .string n, .int .i64 z, .string da, .string dp, .string dv]]) w := by
    clear hst hdep hd h1 hs ho
    have hk : ∀ f, a.eval (.func f) = .func (.func f) #[] #[] := fun _ => rfl; generalize a.eval = ρ at g1 g3 hk ⊢
    unfold execOp; rw [show (opAt ops7_9 4).op = .call { callee := .value (.func 41), args := #[.tmp 51, .tmp 53], argTypes := #[95, 67] } from by kernel_rfl]; try simp only [g1, g3, hk]
    go_simp
   refine op_call ho (by kernel_rfl) hr ((hdf).mono ?_)
   rintro e w'' hgd
   obtain ⟨rfl, hbb⟩ := hgd.val
   exact ⟨_, rfl, made_val (d := 54) (by kernel_rfl) rfl (J7_9_ext _ hst.world (Ext.of_below hbb) (hbb.mono (J7_9_le hB hst.world))) (fun j _ _ u h => R7_9_ext (Ext.of_below hbb) j u h)⟩
 | 5, _, h1, hdep, ho =>
   have g4 : a.eval (.tmp 54) = .tuple #[.string (dStr (fetchA (bs.map Bl.key) n z)), .int .i64 (dNum (fetchA (bs.map Bl.key) n z))] := hst.got 4 (hdep 4 (by kernel_rfl))
   have hr : (execOp a.eval (opAt ops7_9 5)).run Tryz.prog w = .ok (.value (.tuple #[.string (dStr (fetchA (bs.map Bl.key) n z)), .int .i64 (dNum (fetchA (bs.map Bl.key) n z))])) w := by
    clear hst hdep hd h1 hs ho
    generalize a.eval = ρ at g4 ⊢
    unfold execOp; rw [show (opAt ops7_9 5).op = .move (.tmp 54) from by kernel_rfl]; try simp only [g4]
    go_simp
   exact op_value ho (by kernel_rfl) hr (made_val (d := 49) (by kernel_rfl) rfl (J7_9_any _ hst.world) (fun _ _ _ _ h => h))
 | 6, _, h1, hdep, ho =>
   have g5 : a.eval (.tmp 49) = .tuple #[.string (dStr (fetchA (bs.map Bl.key) n z)), .int .i64 (dNum (fetchA (bs.map Bl.key) n z))] := hst.got 5 (hdep 5 (by kernel_rfl))
   have hr : (execOp a.eval (opAt ops7_9 6)).run Tryz.prog w = .ok (.value (.string (dStr (fetchA (bs.map Bl.key) n z)))) w := by
    clear hst hdep hd h1 hs ho
    generalize a.eval = ρ at g5 ⊢
    unfold execOp; rw [show (opAt ops7_9 6).op = .extract (.tmp 49) 0 from by kernel_rfl]; try simp only [g5]
    go_simp
   exact op_value ho (by kernel_rfl) hr (made_val (d := 55) (by kernel_rfl) rfl (J7_9_any _ hst.world) (fun _ _ _ _ h => h))
 | 7, _, h1, hdep, ho =>
   have g5 : a.eval (.tmp 49) = .tuple #[.string (dStr (fetchA (bs.map Bl.key) n z)), .int .i64 (dNum (fetchA (bs.map Bl.key) n z))] := hst.got 5 (hdep 5 (by kernel_rfl))
   have hr : (execOp a.eval (opAt ops7_9 7)).run Tryz.prog w = .ok (.value (.int .i64 (dNum (fetchA (bs.map Bl.key) n z)))) w := by
    clear hst hdep hd h1 hs ho
    generalize a.eval = ρ at g5 ⊢
    unfold execOp; rw [show (opAt ops7_9 7).op = .extract (.tmp 49) 1 from by kernel_rfl]; try simp only [g5]
    go_simp
   exact op_value ho (by kernel_rfl) hr (made_val (d := 56) (by kernel_rfl) rfl (J7_9_any _ hst.world) (fun _ _ _ _ h => h))
 | 8, _, h1, hdep, ho =>
   have g6 : a.eval (.tmp 55) = .string (dStr (fetchA (bs.map Bl.key) n z)) := hst.got 6 (hdep 6 (by kernel_rfl))
   have hr : (execOp a.eval (opAt ops7_9 8)).run Tryz.prog w = .ok (.value (.string (dStr (fetchA (bs.map Bl.key) n z)))) w := by
    clear hst hdep hd h1 hs ho
    generalize a.eval = ρ at g6 ⊢
    unfold execOp; rw [show (opAt ops7_9 8).op = .assign (.tmp 55) from by kernel_rfl]; try simp only [g6]
    go_simp
   exact op_value ho (by kernel_rfl) hr (made_val (d := 10) (by kernel_rfl) rfl (J7_9_any _ hst.world) (fun _ _ _ _ h => h))
 | 9, _, h1, hdep, ho =>
   have g7 : a.eval (.tmp 56) = .int .i64 (dNum (fetchA (bs.map Bl.key) n z)) := hst.got 7 (hdep 7 (by kernel_rfl))
   have hr : (execOp a.eval (opAt ops7_9 9)).run Tryz.prog w = .ok (.value (.int .i64 (dNum (fetchA (bs.map Bl.key) n z)))) w := by
    clear hst hdep hd h1 hs ho
    generalize a.eval = ρ at g7 ⊢
    unfold execOp; rw [show (opAt ops7_9 9).op = .assign (.tmp 56) from by kernel_rfl]; try simp only [g7]
    go_simp
   exact op_value ho (by kernel_rfl) hr (made_val (d := 11) (by kernel_rfl) rfl (J7_9_any _ hst.world) (fun _ _ _ _ h => h))
 | k + 10, hi, _, _, _ => exact absurd hi (by omega)
set_option maxHeartbeats 3200000 in
theorem turn7_9 {x0 x1 x2 x3 x4 x5 x6 x7 x8 x9 x10 x11 x12 x13 x14 x15 x16 x17 x18 x19 x20 x21 x22 x23 x24 x25 x26 x27 x28 x29 x30 x31 x32 x33 x34 x35 x36 x37 x38 x39 x40 x41 x42 x43 x44 x45 x46 x47 x48 x49 x50 x51 x52 x53 x54 x55 x56 x57 x58 x59 x60 x61 x62 x63 x64 x65 x66 x67 x68 x69 x70 x71 x72 x73 x74 x75 x76 x77 x78 x79 x80 x81 x82 x83 x84 x85 x86 x87 x88 x89 x90 x91 z10 z11 : Value} {D : _} {a : Act} (hl : Left 92 ops7_9 a (Act.mk #[x0, x1, x2, x3, x4, x5, x6, x7, x8, x9, x10, x11, x12, x13, x14, x15, x16, x17, x18, x19, x20, x21, x22, x23, x24, x25, x26, x27, x28, x29, x30, x31, x32, x33, x34, x35, x36, x37, x38, x39, x40, x41, x42, x43, x44, x45, x46, x47, x48, x49, x50, x51, x52, x53, x54, x55, x56, x57, x58, x59, x60, x61, x62, x63, x64, x65, x66, x67, x68, x69, x70, x71, x72, x73, x74, x75, x76, x77, x78, x79, x80, x81, x82, x83, x84, x85, x86, x87, x88, x89, x90, x91] D)) (h10 : a.eval (.tmp 10) = z10) (h11 : a.eval (.tmp 11) = z11) : ∃ z49 z50 z51 z52 z53 z54 z55 z56, a = ⟨#[x0, x1, x2, x3, x4, x5, x6, x7, x8, x9, z10, z11, x12, x13, x14, x15, x16, x17, x18, x19, x20, x21, x22, x23, x24, x25, x26, x27, x28, x29, x30, x31, x32, x33, x34, x35, x36, x37, x38, x39, x40, x41, x42, x43, x44, x45, x46, x47, x48, z49, z50, z51, z52, z53, z54, z55, z56, x57, x58, x59, x60, x61, x62, x63, x64, x65, x66, x67, x68, x69, x70, x71, x72, x73, x74, x75, x76, x77, x78, x79, x80, x81, x82, x83, x84, x85, x86, x87, x88, x89, x90, x91], D⟩ := by
 subst h10
 subst h11
 exact ⟨a.eval (.tmp 49), a.eval (.tmp 50), a.eval (.tmp 51), a.eval (.tmp 52), a.eval (.tmp 53), a.eval (.tmp 54), a.eval (.tmp 55), a.eval (.tmp 56), (turn_gen [10, 11, 49, 50, 51, 52, 53, 54, 55, 56] (by kernel_rfl) (by kernel_rfl) hl.1 hl.2.1 hl.2.2).trans (by kernel_rfl)⟩
noncomputable def ops7_12a : Array Oper := (Tryz.f7.body.bind (inCode 12)).getD #[]
def sl7_12a : Nat → Nat
 | 0 => 68
 | 1 => 69
 | 2 => 70
 | 3 => 71
 | 4 => 72
 | 5 => 67
 | 6 => 73
 | 7 => 74
 | 8 => 75
 | 9 => 12
 | 10 => 13
 | 11 => 11
 | _ => 0
def R7_12a (B : Nat) (bs : List Bl) (S : Option Addr) (cap : Nat) (l : List Nat) (A : Option Addr) (cap2 : Nat) : Nat → Value → World → Prop
 | 0, v, w => v = .slice S bs.length cap
 | 1, v, w => ∃ (S' : Option Addr) (c' : Nat), v = .slice S' bs.length c' ∧ Pairs w S' ((bs.map Bl.doc).map dpair) ∧ (S' = none → bs.length = 0 ∧ c' = 0) ∧ bs.length ≤ c'
 | 2, v, w => v = .slice A l.length cap2
 | 3, v, w => v = .string (strN l)
 | 4, v, w => ∃ (S' : Option Addr) (c' : Nat) (out : List (ByteArray × ByteArray)) (s : ByteArray), v = .tuple #[.slice S' out.length c', .string s, .int .i64 0] ∧ Pairs w S' (out.map dpair) ∧ getA (out.map dkey) ⟨(nmL l).toArray⟩ = .ok l ∧ out.length ≤ 21 ∧ ∀ x ∈ out, x.2.size ≤ 3000
 | 5, v, w => ∃ (S' : Option Addr) (c' : Nat) (out : List (ByteArray × ByteArray)) (s : ByteArray), v = .tuple #[.slice S' out.length c', .string s, .int .i64 0] ∧ Pairs w S' (out.map dpair) ∧ getA (out.map dkey) ⟨(nmL l).toArray⟩ = .ok l ∧ out.length ≤ 21 ∧ ∀ x ∈ out, x.2.size ≤ 3000
 | 6, v, w => ∃ (S' : Option Addr) (c' : Nat) (out : List (ByteArray × ByteArray)), v = .slice S' out.length c' ∧ Pairs w S' (out.map dpair) ∧ getA (out.map dkey) ⟨(nmL l).toArray⟩ = .ok l ∧ out.length ≤ 21 ∧ ∀ x ∈ out, x.2.size ≤ 3000
 | 7, v, w => ∃ s : ByteArray, v = .string s
 | 8, v, w => v = .int .i64 0
 | 9, v, w => ∃ (S' : Option Addr) (c' : Nat) (out : List (ByteArray × ByteArray)), v = .slice S' out.length c' ∧ Pairs w S' (out.map dpair) ∧ getA (out.map dkey) ⟨(nmL l).toArray⟩ = .ok l ∧ out.length ≤ 21 ∧ ∀ x ∈ out, x.2.size ≤ 3000
 | 10, v, w => ∃ s : ByteArray, v = .string s
 | 11, v, w => v = .int .i64 0
 | _, _, _ => True
theorem R7_12a_ext {B : Nat} {bs : List Bl} {S : Option Addr} {cap : Nat} {l : List Nat} {A : Option Addr} {cap2 : Nat} {w w' : World} (hx : Ext w w') : ∀ j u, R7_12a B bs S cap l A cap2 j u w → R7_12a B bs S cap l A cap2 j u w'
 | 0, _, h => h
 | 1, _, h => let ⟨S', c', e, h1, h2, h3⟩ := h; ⟨S', c', e, h1.ext hx, h2, h3⟩
 | 2, _, h => h
 | 3, _, h => h
 | 4, _, h => let ⟨S', c', out, s, e, h1, h2⟩ := h; ⟨S', c', out, s, e, h1.ext hx, h2⟩
 | 5, _, h => let ⟨S', c', out, s, e, h1, h2⟩ := h; ⟨S', c', out, s, e, h1.ext hx, h2⟩
 | 6, _, h => let ⟨S', c', out, e, h1, h2⟩ := h; ⟨S', c', out, e, h1.ext hx, h2⟩
 | 7, _, h => h
 | 8, _, h => h
 | 9, _, h => let ⟨S', c', out, e, h1, h2⟩ := h; ⟨S', c', out, e, h1.ext hx, h2⟩
 | 10, _, h => h
 | 11, _, h => h
 | _ + 12, _, _ => trivial
def J7_12a (B : Nat) (w0 : World) (bs : List Bl) (S : Option Addr) (cap : Nat) (l : List Nat) (A : Option Addr) (cap2 : Nat) (L : Array Bool) (w : World) : Prop := Below B w0 w
theorem J7_12a_any {B : Nat} {w0 : World} {bs : List Bl} {S : Option Addr} {cap : Nat} {l : List Nat} {A : Option Addr} {cap2 : Nat} {L : Array Bool} (L' : Array Bool) {w : World} (h : J7_12a B w0 bs S cap l A cap2 L w) : J7_12a B w0 bs S cap l A cap2 L' w := h
theorem J7_12a_ext {B : Nat} {w0 : World} {bs : List Bl} {S : Option Addr} {cap : Nat} {l : List Nat} {A : Option Addr} {cap2 : Nat} {L : Array Bool} (L' : Array Bool) {w w' : World} (h : J7_12a B w0 bs S cap l A cap2 L w) (hx : Ext w w') (hb : Below B w w') : J7_12a B w0 bs S cap l A cap2 L' w' := Below.trans h hb
theorem J7_12a_le {B : Nat} {w0 : World} (hB : B ≤ w0.heap.size) {bs : List Bl} {S : Option Addr} {cap : Nat} {l : List Nat} {A : Option Addr} {cap2 : Nat} {L : Array Bool} {w : World} (h : J7_12a B w0 bs S cap l A cap2 L w) : B ≤ w.heap.size := Nat.le_trans hB (Below.size h)
set_option maxHeartbeats 1600000 in
theorem reg7_12a {ops : Array Oper} (ho : ops = ops7_12a) {Q : Exit → Act → World → Prop} {a0 : Act} {w0 : World} {B : Nat} {bs : List Bl} {S : Option Addr} {cap : Nat} {l : List Nat} {A : Option Addr} {cap2 : Nat} (hB : B ≤ w0.heap.size) (hB2 : w0.heap.size ≤ B) (hsr : StoreAt w0 S bs) (hn : bs.length ≤ 20) (hbig : ∀ b ∈ bs, b.dat.length ≤ 3000) (hb : BytesOk w0 A cap2 l) (hl2 : l.length ≤ 2000) (hok : putOk (bs.map Bl.doc) ⟨(nmL l).toArray⟩ (strN l) = true) (hs0 : a0.eval (.tmp 0) = .slice S bs.length cap) (hs2 : a0.eval (.tmp 2) = .slice A l.length cap2) (hsz : a0.tmps.size = 92)
  (HK : ∀ L a w, J7_12a B w0 bs S cap l A cap2 L w → a.defers = a0.defers → a.tmps.size = 92 → (∀ s, freeB ops7_12a s = true → a.eval (.tmp s) = a0.eval (.tmp s)) → (∀ i, i < 12 → R7_12a B bs S cap l A cap2 i (a.eval (.tmp (sl7_12a i))) w) → Q .normal a w) : (Code.region 12 ops true).wp Tryz.prog Q a0 w0 := by
 subst ho
 refine region_made (n := 12) (sl := sl7_12a) (J := J7_12a B w0 bs S cap l A cap2) (R := R7_12a B bs S cap l A cap2) (by kernel_rfl) (by kernel_rfl) (by kernel_rfl) (by rw [hsz]; kernel_rfl) ?_ (Below.refl _ _).drew (fun L a w hall hf => HK L a w hf.world hf.defers (hf.size.trans hsz) hf.rest (fun i hi => hf.got i (hall i hi)))
 intro i hi L a w hs h1 hdep hd hst ho
 clear HK
 match i, hi, h1, hdep, ho with
 | 0, _, h1, hdep, ho =>
   have s0 := (hst.rest 0 (by kernel_rfl)).trans hs0
   have hr : (execOp a.eval (opAt ops7_12a 0)).run Tryz.prog w = .ok (.value (.slice S bs.length cap)) w := by
    clear hst hdep hd h1 hs ho
    generalize a.eval = ρ at s0 ⊢
    unfold execOp; rw [show (opAt ops7_12a 0).op = .move (.tmp 0) from by kernel_rfl]; try simp only [s0]
    go_simp
   exact op_value ho (by kernel_rfl) hr (made_val (d := 68) (by kernel_rfl) rfl (J7_12a_any _ hst.world) (fun _ _ _ _ h => h))
 | 1, _, h1, hdep, ho =>
   have g0 : a.eval (.tmp 68) = .slice S bs.length cap := hst.got 0 (hdep 0 (by kernel_rfl))
   have hsk := hsr.keep (keepB hst.world hB2)
   have hr : (execOp a.eval (opAt ops7_12a 1)).run Tryz.prog w = .ok (.enter 42 #[.slice S bs.length cap]) w := by
    clear hst hdep hd h1 hs ho
    have hk : ∀ f, a.eval (.func f) = .func (.func f) #[] #[] := fun _ => rfl; generalize a.eval = ρ at g0 hk ⊢
    unfold execOp; rw [show (opAt ops7_12a 1).op = .call { callee := .value (.func 42), args := #[.tmp 68], argTypes := #[86] } from by kernel_rfl]; try simp only [g0, hk]
    go_simp
   refine op_call ho (by kernel_rfl) hr ((document22 bs S cap w hsk (by omega)).mono ?_)
   rintro e w'' ⟨⟨S', c', rfl, hpp, hq1, hq2⟩, hbb⟩
   exact ⟨_, rfl, made_val (d := 69) (by kernel_rfl) ⟨S', c', rfl, hpp, hq1, hq2⟩ (J7_12a_ext _ hst.world (Ext.of_below hbb) (hbb.mono (J7_12a_le hB hst.world))) (fun j _ _ u h => R7_12a_ext (Ext.of_below hbb) j u h)⟩
 | 2, _, h1, hdep, ho =>
   have s2 := (hst.rest 2 (by kernel_rfl)).trans hs2
   have hr : (execOp a.eval (opAt ops7_12a 2)).run Tryz.prog w = .ok (.value (.slice A l.length cap2)) w := by
    clear hst hdep hd h1 hs ho
    generalize a.eval = ρ at s2 ⊢
    unfold execOp; rw [show (opAt ops7_12a 2).op = .move (.tmp 2) from by kernel_rfl]; try simp only [s2]
    go_simp
   exact op_value ho (by kernel_rfl) hr (made_val (d := 70) (by kernel_rfl) rfl (J7_12a_any _ hst.world) (fun _ _ _ _ h => h))
 | 3, _, h1, hdep, ho =>
   have hcv := conv_str (hb.keep (keepB hst.world hB2))
   have g2 : a.eval (.tmp 70) = .slice A l.length cap2 := hst.got 2 (hdep 2 (by kernel_rfl))
   have hr : (execOp a.eval (opAt ops7_12a 3)).run Tryz.prog w = .ok (.value (.string (strN l))) w := by
    clear hst hdep hd h1 hs ho
    generalize a.eval = ρ at g2 ⊢
    unfold execOp; rw [show (opAt ops7_12a 3).op = .convert 87 9 (.tmp 70) from by kernel_rfl]; try simp only [g2]
    go_simp
   exact op_value ho (by kernel_rfl) hr (made_val (d := 71) (by kernel_rfl) rfl (J7_12a_any _ hst.world) (fun _ _ _ _ h => h))
 | 4, _, h1, hdep, ho =>
   obtain ⟨S', c', e1, hpp, hq1, hq2⟩ := hst.got 1 (hdep 1 (by kernel_rfl))
   have g1 : a.eval (.tmp 69) = .slice S' bs.length c' := e1
   clear e1
   have g3 : a.eval (.tmp 71) = .string (strN l) := hst.got 3 (hdep 3 (by kernel_rfl))
   have hdf := dput_any (bs.map Bl.doc) (strN l) S' c' w hpp (by rw [List.length_map]; exact hq1) (by rw [List.length_map]; exact hq2) (by rw [List.length_map]; exact hn) (fun x hx => by obtain ⟨y, hy, rfl⟩ := List.mem_map.1 hx; have := hbig y hy; simp only [Bl.doc, strN_size]; omega) (by rw [strN_size]; exact hl2)
   rw [List.length_map, bytesN_strN hb.by', hok] at hdf
   have hr : (execOp a.eval (opAt ops7_12a 4)).run Tryz.prog w = .ok (.enter 43 #[.slice S' bs.length c', .string (strN l)]) w := by
    clear hst hdep hd h1 hs ho
    have hk : ∀ f, a.eval (.func f) = .func (.func f) #[] #[] := fun _ => rfl; generalize a.eval = ρ at g1 g3 hk ⊢
    unfold execOp; rw [show (opAt ops7_12a 4).op = .call { callee := .value (.func 43), args := #[.tmp 69, .tmp 71], argTypes := #[95, 9] } from by kernel_rfl]; try simp only [g1, g3, hk]
    go_simp
   refine op_call ho (by kernel_rfl) hr ((hdf).mono ?_)
   rintro e w'' ⟨hgd, hbb⟩
   rw [if_pos rfl] at hgd
   obtain ⟨S2, c2, out, s, rfl, hp2, hg2, hl3, hx3⟩ := hgd
   rw [bytesN_strN hb.by'] at hg2
   exact ⟨_, rfl, made_val (d := 72) (by kernel_rfl) ⟨S2, c2, out, s, rfl, hp2, hg2, hl3, hx3⟩ (J7_12a_ext _ hst.world (Ext.of_below hbb) (hbb.mono (J7_12a_le hB hst.world))) (fun j _ _ u h => R7_12a_ext (Ext.of_below hbb) j u h)⟩
 | 5, _, h1, hdep, ho =>
   obtain ⟨S2, c2, out, s, e1, hp2, hg2, hl3, hx3⟩ := hst.got 4 (hdep 4 (by kernel_rfl))
   have g4 : a.eval (.tmp 72) = .tuple #[.slice S2 out.length c2, .string s, .int .i64 0] := e1
   clear e1
   have hr : (execOp a.eval (opAt ops7_12a 5)).run Tryz.prog w = .ok (.value (.tuple #[.slice S2 out.length c2, .string s, .int .i64 0])) w := by
    clear hst hdep hd h1 hs ho
    generalize a.eval = ρ at g4 ⊢
    unfold execOp; rw [show (opAt ops7_12a 5).op = .move (.tmp 72) from by kernel_rfl]; try simp only [g4]
    go_simp
   exact op_value ho (by kernel_rfl) hr (made_val (d := 67) (by kernel_rfl) ⟨S2, c2, out, s, rfl, hp2, hg2, hl3, hx3⟩ (J7_12a_any _ hst.world) (fun _ _ _ _ h => h))
 | 6, _, h1, hdep, ho =>
   obtain ⟨S2, c2, out, s, e1, hp2, hg2, hl3, hx3⟩ := hst.got 5 (hdep 5 (by kernel_rfl))
   have g5 : a.eval (.tmp 67) = .tuple #[.slice S2 out.length c2, .string s, .int .i64 0] := e1
   clear e1
   have hr : (execOp a.eval (opAt ops7_12a 6)).run Tryz.prog w = .ok (.value (.slice S2 out.length c2)) w := by
    clear hst hdep hd h1 hs ho
    generalize a.eval = ρ at g5 ⊢
    unfold execOp; rw [show (opAt ops7_12a 6).op = .extract (.tmp 67) 0 from by kernel_rfl]; try simp only [g5]
    go_simp
   exact op_value ho (by kernel_rfl) hr (made_val (d := 73) (by kernel_rfl) ⟨S2, c2, out, rfl, hp2, hg2, hl3, hx3⟩ (J7_12a_any _ hst.world) (fun _ _ _ _ h => h))
 | 7, _, h1, hdep, ho =>
   obtain ⟨S2, c2, out, s, e1, hp2, hg2, hl3, hx3⟩ := hst.got 5 (hdep 5 (by kernel_rfl))
   have g5 : a.eval (.tmp 67) = .tuple #[.slice S2 out.length c2, .string s, .int .i64 0] := e1
   clear e1
   have hr : (execOp a.eval (opAt ops7_12a 7)).run Tryz.prog w = .ok (.value (.string s)) w := by
    clear hst hdep hd h1 hs ho
    generalize a.eval = ρ at g5 ⊢
    unfold execOp; rw [show (opAt ops7_12a 7).op = .extract (.tmp 67) 1 from by kernel_rfl]; try simp only [g5]
    go_simp
   exact op_value ho (by kernel_rfl) hr (made_val (d := 74) (by kernel_rfl) ⟨s, rfl⟩ (J7_12a_any _ hst.world) (fun _ _ _ _ h => h))
 | 8, _, h1, hdep, ho =>
   obtain ⟨S2, c2, out, s, e1, hp2, hg2, hl3, hx3⟩ := hst.got 5 (hdep 5 (by kernel_rfl))
   have g5 : a.eval (.tmp 67) = .tuple #[.slice S2 out.length c2, .string s, .int .i64 0] := e1
   clear e1
   have hr : (execOp a.eval (opAt ops7_12a 8)).run Tryz.prog w = .ok (.value (.int .i64 0)) w := by
    clear hst hdep hd h1 hs ho
    generalize a.eval = ρ at g5 ⊢
    unfold execOp; rw [show (opAt ops7_12a 8).op = .extract (.tmp 67) 2 from by kernel_rfl]; try simp only [g5]
    go_simp
   exact op_value ho (by kernel_rfl) hr (made_val (d := 75) (by kernel_rfl) rfl (J7_12a_any _ hst.world) (fun _ _ _ _ h => h))
 | 9, _, h1, hdep, ho =>
   obtain ⟨S2, c2, out, e1, hp2, hg2, hl3, hx3⟩ := hst.got 6 (hdep 6 (by kernel_rfl))
   have g6 : a.eval (.tmp 73) = .slice S2 out.length c2 := e1
   clear e1
   have hr : (execOp a.eval (opAt ops7_12a 9)).run Tryz.prog w = .ok (.value (.slice S2 out.length c2)) w := by
    clear hst hdep hd h1 hs ho
    generalize a.eval = ρ at g6 ⊢
    unfold execOp; rw [show (opAt ops7_12a 9).op = .assign (.tmp 73) from by kernel_rfl]; try simp only [g6]
    go_simp
   exact op_value ho (by kernel_rfl) hr (made_val (d := 12) (by kernel_rfl) ⟨S2, c2, out, rfl, hp2, hg2, hl3, hx3⟩ (J7_12a_any _ hst.world) (fun _ _ _ _ h => h))
 | 10, _, h1, hdep, ho =>
   obtain ⟨s, e1⟩ := hst.got 7 (hdep 7 (by kernel_rfl))
   have g7 : a.eval (.tmp 74) = .string s := e1
   clear e1
   have hr : (execOp a.eval (opAt ops7_12a 10)).run Tryz.prog w = .ok (.value (.string s)) w := by
    clear hst hdep hd h1 hs ho
    generalize a.eval = ρ at g7 ⊢
    unfold execOp; rw [show (opAt ops7_12a 10).op = .assign (.tmp 74) from by kernel_rfl]; try simp only [g7]
    go_simp
   exact op_value ho (by kernel_rfl) hr (made_val (d := 13) (by kernel_rfl) ⟨s, rfl⟩ (J7_12a_any _ hst.world) (fun _ _ _ _ h => h))
 | 11, _, h1, hdep, ho =>
   have g8 : a.eval (.tmp 75) = .int .i64 0 := hst.got 8 (hdep 8 (by kernel_rfl))
   have hr : (execOp a.eval (opAt ops7_12a 11)).run Tryz.prog w = .ok (.value (.int .i64 0)) w := by
    clear hst hdep hd h1 hs ho
    generalize a.eval = ρ at g8 ⊢
    unfold execOp; rw [show (opAt ops7_12a 11).op = .assign (.tmp 75) from by kernel_rfl]; try simp only [g8]
    go_simp
   exact op_value ho (by kernel_rfl) hr (made_val (d := 11) (by kernel_rfl) rfl (J7_12a_any _ hst.world) (fun _ _ _ _ h => h))
 | k + 12, hi, _, _, _ => exact absurd hi (by omega)
set_option maxHeartbeats 3200000 in
theorem turn7_12a {x0 x1 x2 x3 x4 x5 x6 x7 x8 x9 x10 x11 x12 x13 x14 x15 x16 x17 x18 x19 x20 x21 x22 x23 x24 x25 x26 x27 x28 x29 x30 x31 x32 x33 x34 x35 x36 x37 x38 x39 x40 x41 x42 x43 x44 x45 x46 x47 x48 x49 x50 x51 x52 x53 x54 x55 x56 x57 x58 x59 x60 x61 x62 x63 x64 x65 x66 x67 x68 x69 x70 x71 x72 x73 x74 x75 x76 x77 x78 x79 x80 x81 x82 x83 x84 x85 x86 x87 x88 x89 x90 x91 z12 z11 : Value} {D : _} {a : Act} (hl : Left 92 ops7_12a a (Act.mk #[x0, x1, x2, x3, x4, x5, x6, x7, x8, x9, x10, x11, x12, x13, x14, x15, x16, x17, x18, x19, x20, x21, x22, x23, x24, x25, x26, x27, x28, x29, x30, x31, x32, x33, x34, x35, x36, x37, x38, x39, x40, x41, x42, x43, x44, x45, x46, x47, x48, x49, x50, x51, x52, x53, x54, x55, x56, x57, x58, x59, x60, x61, x62, x63, x64, x65, x66, x67, x68, x69, x70, x71, x72, x73, x74, x75, x76, x77, x78, x79, x80, x81, x82, x83, x84, x85, x86, x87, x88, x89, x90, x91] D)) (h12 : a.eval (.tmp 12) = z12) (h11 : a.eval (.tmp 11) = z11) : ∃ z13 z67 z68 z69 z70 z71 z72 z73 z74 z75, a = ⟨#[x0, x1, x2, x3, x4, x5, x6, x7, x8, x9, x10, z11, z12, z13, x14, x15, x16, x17, x18, x19, x20, x21, x22, x23, x24, x25, x26, x27, x28, x29, x30, x31, x32, x33, x34, x35, x36, x37, x38, x39, x40, x41, x42, x43, x44, x45, x46, x47, x48, x49, x50, x51, x52, x53, x54, x55, x56, x57, x58, x59, x60, x61, x62, x63, x64, x65, x66, z67, z68, z69, z70, z71, z72, z73, z74, z75, x76, x77, x78, x79, x80, x81, x82, x83, x84, x85, x86, x87, x88, x89, x90, x91], D⟩ := by
 subst h12
 subst h11
 exact ⟨a.eval (.tmp 13), a.eval (.tmp 67), a.eval (.tmp 68), a.eval (.tmp 69), a.eval (.tmp 70), a.eval (.tmp 71), a.eval (.tmp 72), a.eval (.tmp 73), a.eval (.tmp 74), a.eval (.tmp 75), (turn_gen [11, 12, 13, 67, 68, 69, 70, 71, 72, 73, 74, 75] (by kernel_rfl) (by kernel_rfl) hl.1 hl.2.1 hl.2.2).trans (by kernel_rfl)⟩
noncomputable def ops7_12b : Array Oper := (Tryz.f7.body.bind (inCode 12)).getD #[]
def sl7_12b : Nat → Nat
 | 0 => 68
 | 1 => 69
 | 2 => 70
 | 3 => 71
 | 4 => 72
 | 5 => 67
 | 6 => 73
 | 7 => 74
 | 8 => 75
 | 9 => 12
 | 10 => 13
 | 11 => 11
 | _ => 0
def R7_12b (B : Nat) (bs : List Bl) (S : Option Addr) (cap : Nat) (l : List Nat) (A : Option Addr) (cap2 : Nat) : Nat → Value → World → Prop
 | 0, v, w => v = .slice S bs.length cap
 | 1, v, w => ∃ (S' : Option Addr) (c' : Nat), v = .slice S' bs.length c' ∧ Pairs w S' ((bs.map Bl.doc).map dpair) ∧ (S' = none → bs.length = 0 ∧ c' = 0) ∧ bs.length ≤ c'
 | 2, v, w => v = .slice A l.length cap2
 | 3, v, w => v = .string (strN l)
 | 4, v, w => v = .tuple #[.slice none 0 0, .string ⟨#[]⟩, .int .i64 6]
 | 5, v, w => v = .tuple #[.slice none 0 0, .string ⟨#[]⟩, .int .i64 6]
 | 6, v, w => v = .slice none 0 0
 | 7, v, w => v = .string ⟨#[]⟩
 | 8, v, w => v = .int .i64 6
 | 9, v, w => v = .slice none 0 0
 | 10, v, w => v = .string ⟨#[]⟩
 | 11, v, w => v = .int .i64 6
 | _, _, _ => True
theorem R7_12b_ext {B : Nat} {bs : List Bl} {S : Option Addr} {cap : Nat} {l : List Nat} {A : Option Addr} {cap2 : Nat} {w w' : World} (hx : Ext w w') : ∀ j u, R7_12b B bs S cap l A cap2 j u w → R7_12b B bs S cap l A cap2 j u w'
 | 0, _, h => h
 | 1, _, h => let ⟨S', c', e, h1, h2, h3⟩ := h; ⟨S', c', e, h1.ext hx, h2, h3⟩
 | 2, _, h => h
 | 3, _, h => h
 | 4, _, h => h
 | 5, _, h => h
 | 6, _, h => h
 | 7, _, h => h
 | 8, _, h => h
 | 9, _, h => h
 | 10, _, h => h
 | 11, _, h => h
 | _ + 12, _, _ => trivial
def J7_12b (B : Nat) (w0 : World) (bs : List Bl) (S : Option Addr) (cap : Nat) (l : List Nat) (A : Option Addr) (cap2 : Nat) (L : Array Bool) (w : World) : Prop := Below B w0 w
theorem J7_12b_any {B : Nat} {w0 : World} {bs : List Bl} {S : Option Addr} {cap : Nat} {l : List Nat} {A : Option Addr} {cap2 : Nat} {L : Array Bool} (L' : Array Bool) {w : World} (h : J7_12b B w0 bs S cap l A cap2 L w) : J7_12b B w0 bs S cap l A cap2 L' w := h
theorem J7_12b_ext {B : Nat} {w0 : World} {bs : List Bl} {S : Option Addr} {cap : Nat} {l : List Nat} {A : Option Addr} {cap2 : Nat} {L : Array Bool} (L' : Array Bool) {w w' : World} (h : J7_12b B w0 bs S cap l A cap2 L w) (hx : Ext w w') (hb : Below B w w') : J7_12b B w0 bs S cap l A cap2 L' w' := Below.trans h hb
theorem J7_12b_le {B : Nat} {w0 : World} (hB : B ≤ w0.heap.size) {bs : List Bl} {S : Option Addr} {cap : Nat} {l : List Nat} {A : Option Addr} {cap2 : Nat} {L : Array Bool} {w : World} (h : J7_12b B w0 bs S cap l A cap2 L w) : B ≤ w.heap.size := Nat.le_trans hB (Below.size h)
set_option maxHeartbeats 1600000 in
theorem reg7_12b {ops : Array Oper} (ho : ops = ops7_12b) {Q : Exit → Act → World → Prop} {a0 : Act} {w0 : World} {B : Nat} {bs : List Bl} {S : Option Addr} {cap : Nat} {l : List Nat} {A : Option Addr} {cap2 : Nat} (hB : B ≤ w0.heap.size) (hB2 : w0.heap.size ≤ B) (hsr : StoreAt w0 S bs) (hn : bs.length ≤ 20) (hbig : ∀ b ∈ bs, b.dat.length ≤ 3000) (hb : BytesOk w0 A cap2 l) (hl2 : l.length ≤ 2000) (hok : putOk (bs.map Bl.doc) ⟨(nmL l).toArray⟩ (strN l) = false) (hs0 : a0.eval (.tmp 0) = .slice S bs.length cap) (hs2 : a0.eval (.tmp 2) = .slice A l.length cap2) (hsz : a0.tmps.size = 92)
  (HK : ∀ L a w, J7_12b B w0 bs S cap l A cap2 L w → a.defers = a0.defers → a.tmps.size = 92 → (∀ s, freeB ops7_12b s = true → a.eval (.tmp s) = a0.eval (.tmp s)) → (∀ i, i < 12 → R7_12b B bs S cap l A cap2 i (a.eval (.tmp (sl7_12b i))) w) → Q .normal a w) : (Code.region 12 ops true).wp Tryz.prog Q a0 w0 := by
 subst ho
 refine region_made (n := 12) (sl := sl7_12b) (J := J7_12b B w0 bs S cap l A cap2) (R := R7_12b B bs S cap l A cap2) (by kernel_rfl) (by kernel_rfl) (by kernel_rfl) (by rw [hsz]; kernel_rfl) ?_ (Below.refl _ _).drew (fun L a w hall hf => HK L a w hf.world hf.defers (hf.size.trans hsz) hf.rest (fun i hi => hf.got i (hall i hi)))
 intro i hi L a w hs h1 hdep hd hst ho
 clear HK
 match i, hi, h1, hdep, ho with
 | 0, _, h1, hdep, ho =>
   have s0 := (hst.rest 0 (by kernel_rfl)).trans hs0
   have hr : (execOp a.eval (opAt ops7_12b 0)).run Tryz.prog w = .ok (.value (.slice S bs.length cap)) w := by
    clear hst hdep hd h1 hs ho
    generalize a.eval = ρ at s0 ⊢
    unfold execOp; rw [show (opAt ops7_12b 0).op = .move (.tmp 0) from by kernel_rfl]; try simp only [s0]
    go_simp
   exact op_value ho (by kernel_rfl) hr (made_val (d := 68) (by kernel_rfl) rfl (J7_12b_any _ hst.world) (fun _ _ _ _ h => h))
 | 1, _, h1, hdep, ho =>
   have g0 : a.eval (.tmp 68) = .slice S bs.length cap := hst.got 0 (hdep 0 (by kernel_rfl))
   have hsk := hsr.keep (keepB hst.world hB2)
   have hr : (execOp a.eval (opAt ops7_12b 1)).run Tryz.prog w = .ok (.enter 42 #[.slice S bs.length cap]) w := by
    clear hst hdep hd h1 hs ho
    have hk : ∀ f, a.eval (.func f) = .func (.func f) #[] #[] := fun _ => rfl; generalize a.eval = ρ at g0 hk ⊢
    unfold execOp; rw [show (opAt ops7_12b 1).op = .call { callee := .value (.func 42), args := #[.tmp 68], argTypes := #[86] } from by kernel_rfl]; try simp only [g0, hk]
    go_simp
   refine op_call ho (by kernel_rfl) hr ((document22 bs S cap w hsk (by omega)).mono ?_)
   rintro e w'' ⟨⟨S', c', rfl, hpp, hq1, hq2⟩, hbb⟩
   exact ⟨_, rfl, made_val (d := 69) (by kernel_rfl) ⟨S', c', rfl, hpp, hq1, hq2⟩ (J7_12b_ext _ hst.world (Ext.of_below hbb) (hbb.mono (J7_12b_le hB hst.world))) (fun j _ _ u h => R7_12b_ext (Ext.of_below hbb) j u h)⟩
 | 2, _, h1, hdep, ho =>
   have s2 := (hst.rest 2 (by kernel_rfl)).trans hs2
   have hr : (execOp a.eval (opAt ops7_12b 2)).run Tryz.prog w = .ok (.value (.slice A l.length cap2)) w := by
    clear hst hdep hd h1 hs ho
    generalize a.eval = ρ at s2 ⊢
    unfold execOp; rw [show (opAt ops7_12b 2).op = .move (.tmp 2) from by kernel_rfl]; try simp only [s2]
    go_simp
   exact op_value ho (by kernel_rfl) hr (made_val (d := 70) (by kernel_rfl) rfl (J7_12b_any _ hst.world) (fun _ _ _ _ h => h))
 | 3, _, h1, hdep, ho =>
   have hcv := conv_str (hb.keep (keepB hst.world hB2))
   have g2 : a.eval (.tmp 70) = .slice A l.length cap2 := hst.got 2 (hdep 2 (by kernel_rfl))
   have hr : (execOp a.eval (opAt ops7_12b 3)).run Tryz.prog w = .ok (.value (.string (strN l))) w := by
    clear hst hdep hd h1 hs ho
    generalize a.eval = ρ at g2 ⊢
    unfold execOp; rw [show (opAt ops7_12b 3).op = .convert 87 9 (.tmp 70) from by kernel_rfl]; try simp only [g2]
    go_simp
   exact op_value ho (by kernel_rfl) hr (made_val (d := 71) (by kernel_rfl) rfl (J7_12b_any _ hst.world) (fun _ _ _ _ h => h))
 | 4, _, h1, hdep, ho =>
   obtain ⟨S', c', e1, hpp, hq1, hq2⟩ := hst.got 1 (hdep 1 (by kernel_rfl))
   have g1 : a.eval (.tmp 69) = .slice S' bs.length c' := e1
   clear e1
   have g3 : a.eval (.tmp 71) = .string (strN l) := hst.got 3 (hdep 3 (by kernel_rfl))
   have hdf := dput_any (bs.map Bl.doc) (strN l) S' c' w hpp (by rw [List.length_map]; exact hq1) (by rw [List.length_map]; exact hq2) (by rw [List.length_map]; exact hn) (fun x hx => by obtain ⟨y, hy, rfl⟩ := List.mem_map.1 hx; have := hbig y hy; simp only [Bl.doc, strN_size]; omega) (by rw [strN_size]; exact hl2)
   rw [List.length_map, bytesN_strN hb.by', hok] at hdf
   have hr : (execOp a.eval (opAt ops7_12b 4)).run Tryz.prog w = .ok (.enter 43 #[.slice S' bs.length c', .string (strN l)]) w := by
    clear hst hdep hd h1 hs ho
    have hk : ∀ f, a.eval (.func f) = .func (.func f) #[] #[] := fun _ => rfl; generalize a.eval = ρ at g1 g3 hk ⊢
    unfold execOp; rw [show (opAt ops7_12b 4).op = .call { callee := .value (.func 43), args := #[.tmp 69, .tmp 71], argTypes := #[95, 9] } from by kernel_rfl]; try simp only [g1, g3, hk]
    go_simp
   refine op_call ho (by kernel_rfl) hr ((hdf).mono ?_)
   rintro e w'' ⟨hgd, hbb⟩
   rw [if_neg (by decide)] at hgd
   subst hgd
   exact ⟨_, rfl, made_val (d := 72) (by kernel_rfl) rfl (J7_12b_ext _ hst.world (Ext.of_below hbb) (hbb.mono (J7_12b_le hB hst.world))) (fun j _ _ u h => R7_12b_ext (Ext.of_below hbb) j u h)⟩
 | 5, _, h1, hdep, ho =>
   have g4 : a.eval (.tmp 72) = .tuple #[.slice none 0 0, .string ⟨#[]⟩, .int .i64 6] := hst.got 4 (hdep 4 (by kernel_rfl))
   have hr : (execOp a.eval (opAt ops7_12b 5)).run Tryz.prog w = .ok (.value (.tuple #[.slice none 0 0, .string ⟨#[]⟩, .int .i64 6])) w := by
    clear hst hdep hd h1 hs ho
    generalize a.eval = ρ at g4 ⊢
    unfold execOp; rw [show (opAt ops7_12b 5).op = .move (.tmp 72) from by kernel_rfl]; try simp only [g4]
    go_simp
   exact op_value ho (by kernel_rfl) hr (made_val (d := 67) (by kernel_rfl) rfl (J7_12b_any _ hst.world) (fun _ _ _ _ h => h))
 | 6, _, h1, hdep, ho =>
   have g5 : a.eval (.tmp 67) = .tuple #[.slice none 0 0, .string ⟨#[]⟩, .int .i64 6] := hst.got 5 (hdep 5 (by kernel_rfl))
   have hr : (execOp a.eval (opAt ops7_12b 6)).run Tryz.prog w = .ok (.value (.slice none 0 0)) w := by
    clear hst hdep hd h1 hs ho
    generalize a.eval = ρ at g5 ⊢
    unfold execOp; rw [show (opAt ops7_12b 6).op = .extract (.tmp 67) 0 from by kernel_rfl]; try simp only [g5]
    go_simp
   exact op_value ho (by kernel_rfl) hr (made_val (d := 73) (by kernel_rfl) rfl (J7_12b_any _ hst.world) (fun _ _ _ _ h => h))
 | 7, _, h1, hdep, ho =>
   have g5 : a.eval (.tmp 67) = .tuple #[.slice none 0 0, .string ⟨#[]⟩, .int .i64 6] := hst.got 5 (hdep 5 (by kernel_rfl))
   have hr : (execOp a.eval (opAt ops7_12b 7)).run Tryz.prog w = .ok (.value (.string ⟨#[]⟩)) w := by
    clear hst hdep hd h1 hs ho
    generalize a.eval = ρ at g5 ⊢
    unfold execOp; rw [show (opAt ops7_12b 7).op = .extract (.tmp 67) 1 from by kernel_rfl]; try simp only [g5]
    go_simp
   exact op_value ho (by kernel_rfl) hr (made_val (d := 74) (by kernel_rfl) rfl (J7_12b_any _ hst.world) (fun _ _ _ _ h => h))
 | 8, _, h1, hdep, ho =>
   have g5 : a.eval (.tmp 67) = .tuple #[.slice none 0 0, .string ⟨#[]⟩, .int .i64 6] := hst.got 5 (hdep 5 (by kernel_rfl))
   have hr : (execOp a.eval (opAt ops7_12b 8)).run Tryz.prog w = .ok (.value (.int .i64 6)) w := by
    clear hst hdep hd h1 hs ho
    generalize a.eval = ρ at g5 ⊢
    unfold execOp; rw [show (opAt ops7_12b 8).op = .extract (.tmp 67) 2 from by kernel_rfl]; try simp only [g5]
    go_simp
   exact op_value ho (by kernel_rfl) hr (made_val (d := 75) (by kernel_rfl) rfl (J7_12b_any _ hst.world) (fun _ _ _ _ h => h))
 | 9, _, h1, hdep, ho =>
   have g6 : a.eval (.tmp 73) = .slice none 0 0 := hst.got 6 (hdep 6 (by kernel_rfl))
   have hr : (execOp a.eval (opAt ops7_12b 9)).run Tryz.prog w = .ok (.value (.slice none 0 0)) w := by
    clear hst hdep hd h1 hs ho
    generalize a.eval = ρ at g6 ⊢
    unfold execOp; rw [show (opAt ops7_12b 9).op = .assign (.tmp 73) from by kernel_rfl]; try simp only [g6]
    go_simp
   exact op_value ho (by kernel_rfl) hr (made_val (d := 12) (by kernel_rfl) rfl (J7_12b_any _ hst.world) (fun _ _ _ _ h => h))
 | 10, _, h1, hdep, ho =>
   have g7 : a.eval (.tmp 74) = .string ⟨#[]⟩ := hst.got 7 (hdep 7 (by kernel_rfl))
   have hr : (execOp a.eval (opAt ops7_12b 10)).run Tryz.prog w = .ok (.value (.string ⟨#[]⟩)) w := by
    clear hst hdep hd h1 hs ho
    generalize a.eval = ρ at g7 ⊢
    unfold execOp; rw [show (opAt ops7_12b 10).op = .assign (.tmp 74) from by kernel_rfl]; try simp only [g7]
    go_simp
   exact op_value ho (by kernel_rfl) hr (made_val (d := 13) (by kernel_rfl) rfl (J7_12b_any _ hst.world) (fun _ _ _ _ h => h))
 | 11, _, h1, hdep, ho =>
   have g8 : a.eval (.tmp 75) = .int .i64 6 := hst.got 8 (hdep 8 (by kernel_rfl))
   have hr : (execOp a.eval (opAt ops7_12b 11)).run Tryz.prog w = .ok (.value (.int .i64 6)) w := by
    clear hst hdep hd h1 hs ho
    generalize a.eval = ρ at g8 ⊢
    unfold execOp; rw [show (opAt ops7_12b 11).op = .assign (.tmp 75) from by kernel_rfl]; try simp only [g8]
    go_simp
   exact op_value ho (by kernel_rfl) hr (made_val (d := 11) (by kernel_rfl) rfl (J7_12b_any _ hst.world) (fun _ _ _ _ h => h))
 | k + 12, hi, _, _, _ => exact absurd hi (by omega)
set_option maxHeartbeats 3200000 in
theorem turn7_12b {x0 x1 x2 x3 x4 x5 x6 x7 x8 x9 x10 x11 x12 x13 x14 x15 x16 x17 x18 x19 x20 x21 x22 x23 x24 x25 x26 x27 x28 x29 x30 x31 x32 x33 x34 x35 x36 x37 x38 x39 x40 x41 x42 x43 x44 x45 x46 x47 x48 x49 x50 x51 x52 x53 x54 x55 x56 x57 x58 x59 x60 x61 x62 x63 x64 x65 x66 x67 x68 x69 x70 x71 x72 x73 x74 x75 x76 x77 x78 x79 x80 x81 x82 x83 x84 x85 x86 x87 x88 x89 x90 x91 z12 z11 : Value} {D : _} {a : Act} (hl : Left 92 ops7_12b a (Act.mk #[x0, x1, x2, x3, x4, x5, x6, x7, x8, x9, x10, x11, x12, x13, x14, x15, x16, x17, x18, x19, x20, x21, x22, x23, x24, x25, x26, x27, x28, x29, x30, x31, x32, x33, x34, x35, x36, x37, x38, x39, x40, x41, x42, x43, x44, x45, x46, x47, x48, x49, x50, x51, x52, x53, x54, x55, x56, x57, x58, x59, x60, x61, x62, x63, x64, x65, x66, x67, x68, x69, x70, x71, x72, x73, x74, x75, x76, x77, x78, x79, x80, x81, x82, x83, x84, x85, x86, x87, x88, x89, x90, x91] D)) (h12 : a.eval (.tmp 12) = z12) (h11 : a.eval (.tmp 11) = z11) : ∃ z13 z67 z68 z69 z70 z71 z72 z73 z74 z75, a = ⟨#[x0, x1, x2, x3, x4, x5, x6, x7, x8, x9, x10, z11, z12, z13, x14, x15, x16, x17, x18, x19, x20, x21, x22, x23, x24, x25, x26, x27, x28, x29, x30, x31, x32, x33, x34, x35, x36, x37, x38, x39, x40, x41, x42, x43, x44, x45, x46, x47, x48, x49, x50, x51, x52, x53, x54, x55, x56, x57, x58, x59, x60, x61, x62, x63, x64, x65, x66, z67, z68, z69, z70, z71, z72, z73, z74, z75, x76, x77, x78, x79, x80, x81, x82, x83, x84, x85, x86, x87, x88, x89, x90, x91], D⟩ := by
 subst h12
 subst h11
 exact ⟨a.eval (.tmp 13), a.eval (.tmp 67), a.eval (.tmp 68), a.eval (.tmp 69), a.eval (.tmp 70), a.eval (.tmp 71), a.eval (.tmp 72), a.eval (.tmp 73), a.eval (.tmp 74), a.eval (.tmp 75), (turn_gen [11, 12, 13, 67, 68, 69, 70, 71, 72, 73, 74, 75] (by kernel_rfl) (by kernel_rfl) hl.1 hl.2.1 hl.2.2).trans (by kernel_rfl)⟩
theorem back_big {bs : List Bl} {ds : List (ByteArray × ByteArray)} (hk : bs.map Bl.key = ds.map dkey) (h : ∀ x ∈ ds, x.2.size ≤ 3000) : ∀ b ∈ bs, b.dat.length ≤ 100000000 := fun b hb => by
 have h1 : b.key ∈ ds.map dkey := by rw [← hk]; exact List.mem_map.2 ⟨b, hb, rfl⟩
 obtain ⟨x, hx, he⟩ := List.mem_map.1 h1
 have h2 := congrArg (fun y => y.2.length) he
 simp only [dkey, Bl.key, bytesN_length] at h2
 have := h x hx
 omega
noncomputable def ops7_15 : Array Oper := (Tryz.f7.body.bind (inCode 15)).getD #[]
def sl7_15 : Nat → Nat
 | 0 => 79
 | 1 => 80
 | 2 => 81
 | 3 => 82
 | 4 => 78
 | 5 => 83
 | 6 => 84
 | 7 => 14
 | 8 => 9
 | _ => 0
def R7_15 (B : Nat) (p7 : Nat) (m : ByteArray) (nb : ByteArray) (l : List Nat) (ds : DocBl) (S : Option Addr) (cap : Nat) : Nat → Value → World → Prop
 | 0, v, w => v = .slice S ds.length cap
 | 1, v, w => ∃ (S' : Option Addr) (c' : Nat) (bs : List Bl), v = .slice S' bs.length c' ∧ StoreAt w S' bs ∧ bs.map Bl.key = ds.map dkey
 | 2, v, w => v = .agg #[.string m, .string nb, .int .i64 (l.length : Int), .string ⟨#[]⟩, .string ⟨#[]⟩, .string ⟨#[]⟩]
 | 3, v, w => ∃ (A' : Option Addr) (c' : Nat), v = .tuple #[.slice A' l.length c', .nilIface] ∧ BytesOk w A' c' l
 | 4, v, w => ∃ (A' : Option Addr) (c' : Nat), v = .tuple #[.slice A' l.length c', .nilIface] ∧ BytesOk w A' c' l
 | 5, v, w => ∃ (A' : Option Addr) (c' : Nat), v = .slice A' l.length c' ∧ BytesOk w A' c' l
 | 6, v, w => v = .nilIface
 | 7, v, w => ∃ (A' : Option Addr) (c' : Nat), v = .slice A' l.length c' ∧ BytesOk w A' c' l
 | 8, v, w => v = .nilIface
 | _, _, _ => True
theorem R7_15_ext {B : Nat} {p7 : Nat} {m : ByteArray} {nb : ByteArray} {l : List Nat} {ds : DocBl} {S : Option Addr} {cap : Nat} {w w' : World} (hx : Ext w w') : ∀ j u, R7_15 B p7 m nb l ds S cap j u w → R7_15 B p7 m nb l ds S cap j u w'
 | 0, _, h => h
 | 1, _, h => let ⟨S', c', bs, e, h1, h2⟩ := h; ⟨S', c', bs, e, h1.ext hx, h2⟩
 | 2, _, h => h
 | 3, _, h => let ⟨A', c', e, h1⟩ := h; ⟨A', c', e, h1.ext hx⟩
 | 4, _, h => let ⟨A', c', e, h1⟩ := h; ⟨A', c', e, h1.ext hx⟩
 | 5, _, h => let ⟨A', c', e, h1⟩ := h; ⟨A', c', e, h1.ext hx⟩
 | 6, _, h => h
 | 7, _, h => let ⟨A', c', e, h1⟩ := h; ⟨A', c', e, h1.ext hx⟩
 | 8, _, h => h
 | _ + 9, _, _ => trivial
def J7_15 (B : Nat) (w0 : World) (p7 : Nat) (m : ByteArray) (nb : ByteArray) (l : List Nat) (ds : DocBl) (S : Option Addr) (cap : Nat) (L : Array Bool) (w : World) : Prop := Below B w0 w
theorem J7_15_any {B : Nat} {w0 : World} {p7 : Nat} {m : ByteArray} {nb : ByteArray} {l : List Nat} {ds : DocBl} {S : Option Addr} {cap : Nat} {L : Array Bool} (L' : Array Bool) {w : World} (h : J7_15 B w0 p7 m nb l ds S cap L w) : J7_15 B w0 p7 m nb l ds S cap L' w := h
theorem J7_15_ext {B : Nat} {w0 : World} {p7 : Nat} {m : ByteArray} {nb : ByteArray} {l : List Nat} {ds : DocBl} {S : Option Addr} {cap : Nat} {L : Array Bool} (L' : Array Bool) {w w' : World} (h : J7_15 B w0 p7 m nb l ds S cap L w) (hx : Ext w w') (hb : Below B w w') : J7_15 B w0 p7 m nb l ds S cap L' w' := Below.trans h hb
theorem J7_15_le {B : Nat} {w0 : World} (hB : B ≤ w0.heap.size) {p7 : Nat} {m : ByteArray} {nb : ByteArray} {l : List Nat} {ds : DocBl} {S : Option Addr} {cap : Nat} {L : Array Bool} {w : World} (h : J7_15 B w0 p7 m nb l ds S cap L w) : B ≤ w.heap.size := Nat.le_trans hB (Below.size h)
set_option maxHeartbeats 1600000 in
theorem reg7_15 {ops : Array Oper} (ho : ops = ops7_15) {Q : Exit → Act → World → Prop} {a0 : Act} {w0 : World} {B : Nat} {p7 : Nat} {m : ByteArray} {nb : ByteArray} {l : List Nat} {ds : DocBl} {S : Option Addr} {cap : Nat} (hB : B ≤ w0.heap.size) (hB2 : w0.heap.size ≤ B) (hp7 : w0.heap[p7]? = some (.cells #[.string m, .string nb, .int .i64 (l.length : Int), .string ⟨#[]⟩, .string ⟨#[]⟩, .string ⟨#[]⟩] 62 (0, 0))) (hl7 : p7 < B) (hw : ShaD w0) (hsr : Pairs w0 S (ds.map dpair)) (hg : getA (ds.map dkey) nb = .ok l) (hn : ds.length ≤ 21) (hbig : ∀ x ∈ ds, x.2.size ≤ 3000) (hnb : nb.size ≤ 1073741824) (hs7 : a0.eval (.tmp 7) = .pointer (some ⟨p7, 0, none⟩)) (hs12 : a0.eval (.tmp 12) = .slice S ds.length cap) (hsz : a0.tmps.size = 92)
  (HK : ∀ L a w, J7_15 B w0 p7 m nb l ds S cap L w → a.defers = a0.defers → a.tmps.size = 92 → (∀ s, freeB ops7_15 s = true → a.eval (.tmp s) = a0.eval (.tmp s)) → (∀ i, i < 9 → R7_15 B p7 m nb l ds S cap i (a.eval (.tmp (sl7_15 i))) w) → Q .normal a w) : (Code.region 15 ops true).wp Tryz.prog Q a0 w0 := by
 subst ho
 refine region_made (n := 9) (sl := sl7_15) (J := J7_15 B w0 p7 m nb l ds S cap) (R := R7_15 B p7 m nb l ds S cap) (by kernel_rfl) (by kernel_rfl) (by kernel_rfl) (by rw [hsz]; kernel_rfl) ?_ (Below.refl _ _).drew (fun L a w hall hf => HK L a w hf.world hf.defers (hf.size.trans hsz) hf.rest (fun i hi => hf.got i (hall i hi)))
 intro i hi L a w hs h1 hdep hd hst ho
 clear HK
 match i, hi, h1, hdep, ho with
 | 0, _, h1, hdep, ho =>
   have s12 := (hst.rest 12 (by kernel_rfl)).trans hs12
   have hr : (execOp a.eval (opAt ops7_15 0)).run Tryz.prog w = .ok (.value (.slice S ds.length cap)) w := by
    clear hst hdep hd h1 hs ho
    generalize a.eval = ρ at s12 ⊢
    unfold execOp; rw [show (opAt ops7_15 0).op = .move (.tmp 12) from by kernel_rfl]; try simp only [s12]
    go_simp
   exact op_value ho (by kernel_rfl) hr (made_val (d := 79) (by kernel_rfl) rfl (J7_15_any _ hst.world) (fun _ _ _ _ h => h))
 | 1, _, h1, hdep, ho =>
   have g0 : a.eval (.tmp 79) = .slice S ds.length cap := hst.got 0 (hdep 0 (by kernel_rfl))
   have hsk := hsr.keep (keepB hst.world hB2)
   have hr : (execOp a.eval (opAt ops7_15 1)).run Tryz.prog w = .ok (.enter 44 #[.slice S ds.length cap]) w := by
    clear hst hdep hd h1 hs ho
    have hk : ∀ f, a.eval (.func f) = .func (.func f) #[] #[] := fun _ => rfl; generalize a.eval = ρ at g0 hk ⊢
    unfold execOp; rw [show (opAt ops7_15 1).op = .call { callee := .value (.func 44), args := #[.tmp 79], argTypes := #[95] } from by kernel_rfl]; try simp only [g0, hk]
    go_simp
   refine op_call ho (by kernel_rfl) hr ((back_any ds S cap w hsk (by omega)).mono ?_)
   rintro e w'' ⟨⟨S', c', bs, rfl, hst2, hkk⟩, hbb⟩
   exact ⟨_, rfl, made_val (d := 80) (by kernel_rfl) ⟨S', c', bs, rfl, hst2, hkk⟩ (J7_15_ext _ hst.world (Ext.of_below hbb) (hbb.mono (J7_15_le hB hst.world))) (fun j _ _ u h => R7_15_ext (Ext.of_below hbb) j u h)⟩
 | 2, _, h1, hdep, ho =>
   have c7 := fun o => cell_of_row w p7 o _ 62 (0, 0) ((Below.block hst.world p7 hl7).trans hp7)
   have s7 := (hst.rest 7 (by kernel_rfl)).trans hs7
   have hr : (execOp a.eval (opAt ops7_15 2)).run Tryz.prog w = .ok (.value (.agg #[.string m, .string nb, .int .i64 (l.length : Int), .string ⟨#[]⟩, .string ⟨#[]⟩, .string ⟨#[]⟩])) w := by
    clear hst hdep hd h1 hs ho
    generalize a.eval = ρ at s7 ⊢
    unfold execOp; rw [show (opAt ops7_15 2).op = .load 62 (.tmp 7) from by kernel_rfl]; try simp only [s7]
    go_simp
   exact op_value ho (by kernel_rfl) hr (made_val (d := 81) (by kernel_rfl) rfl (J7_15_any _ hst.world) (fun _ _ _ _ h => h))
 | 3, _, h1, hdep, ho =>
   obtain ⟨S', c', bs, e1, hst2, hkk⟩ := hst.got 1 (hdep 1 (by kernel_rfl))
   have g1 : a.eval (.tmp 80) = .slice S' bs.length c' := e1
   clear e1
   have g2 : a.eval (.tmp 81) = .agg #[.string m, .string nb, .int .i64 (l.length : Int), .string ⟨#[]⟩, .string ⟨#[]⟩, .string ⟨#[]⟩] := hst.got 2 (hdep 2 (by kernel_rfl))
   have hkl : bs.length = ds.length := by have := congrArg List.length hkk; simpa using this
   have hbd : ∀ b ∈ bs, b.dat.length ≤ 100000000 := fun b hb => back_big hkk hbig b hb
   have hfr : fetchA (bs.map Bl.key) nb (l.length : Int) = .ok l := by unfold fetchA; rw [hkk, hg]; simp
   have hff := fetch_any bs m nb (l.length : Int) ⟨#[]⟩ ⟨#[]⟩ ⟨#[]⟩ S' c' w (hw.keep hst.world (Nat.le_trans hw.size hB2)) hst2 (by omega) hbd hnb
   rw [hfr] at hff
   have hr : (execOp a.eval (opAt ops7_15 3)).run Tryz.prog w = .ok (.enter 40 #[.slice S' bs.length c', .agg #[.string m, .string nb, .int .i64 (l.length : Int), .string ⟨#[]⟩, .string ⟨#[]⟩, .string ⟨#[]⟩]]) w := by
    clear hst hdep hd h1 hs ho
    have hk : ∀ f, a.eval (.func f) = .func (.func f) #[] #[] := fun _ => rfl; generalize a.eval = ρ at g1 g2 hk ⊢
    unfold execOp; rw [show (opAt ops7_15 3).op = .call { callee := .value (.func 40), args := #[.tmp 80, .tmp 81], argTypes := #[86, 62] } from by kernel_rfl]; try simp only [g1, g2, hk]
    go_simp
   refine op_call ho (by kernel_rfl) hr ((hff).mono ?_)
   rintro e w'' ⟨⟨A2, c2, rfl, hbo⟩, hbb⟩
   exact ⟨_, rfl, made_val (d := 82) (by kernel_rfl) ⟨A2, c2, rfl, hbo⟩ (J7_15_ext _ hst.world (Ext.of_below hbb) (hbb.mono (J7_15_le hB hst.world))) (fun j _ _ u h => R7_15_ext (Ext.of_below hbb) j u h)⟩
 | 4, _, h1, hdep, ho =>
   obtain ⟨A2, c2, e1, hbo⟩ := hst.got 3 (hdep 3 (by kernel_rfl))
   have g3 : a.eval (.tmp 82) = .tuple #[.slice A2 l.length c2, .nilIface] := e1
   clear e1
   have hr : (execOp a.eval (opAt ops7_15 4)).run Tryz.prog w = .ok (.value (.tuple #[.slice A2 l.length c2, .nilIface])) w := by
    clear hst hdep hd h1 hs ho
    generalize a.eval = ρ at g3 ⊢
    unfold execOp; rw [show (opAt ops7_15 4).op = .move (.tmp 82) from by kernel_rfl]; try simp only [g3]
    go_simp
   exact op_value ho (by kernel_rfl) hr (made_val (d := 78) (by kernel_rfl) ⟨A2, c2, rfl, hbo⟩ (J7_15_any _ hst.world) (fun _ _ _ _ h => h))
 | 5, _, h1, hdep, ho =>
   obtain ⟨A2, c2, e1, hbo⟩ := hst.got 4 (hdep 4 (by kernel_rfl))
   have g4 : a.eval (.tmp 78) = .tuple #[.slice A2 l.length c2, .nilIface] := e1
   clear e1
   have hr : (execOp a.eval (opAt ops7_15 5)).run Tryz.prog w = .ok (.value (.slice A2 l.length c2)) w := by
    clear hst hdep hd h1 hs ho
    generalize a.eval = ρ at g4 ⊢
    unfold execOp; rw [show (opAt ops7_15 5).op = .extract (.tmp 78) 0 from by kernel_rfl]; try simp only [g4]
    go_simp
   exact op_value ho (by kernel_rfl) hr (made_val (d := 83) (by kernel_rfl) ⟨A2, c2, rfl, hbo⟩ (J7_15_any _ hst.world) (fun _ _ _ _ h => h))
 | 6, _, h1, hdep, ho =>
   obtain ⟨A2, c2, e1, hbo⟩ := hst.got 4 (hdep 4 (by kernel_rfl))
   have g4 : a.eval (.tmp 78) = .tuple #[.slice A2 l.length c2, .nilIface] := e1
   clear e1
   have hr : (execOp a.eval (opAt ops7_15 6)).run Tryz.prog w = .ok (.value (.nilIface)) w := by
    clear hst hdep hd h1 hs ho
    generalize a.eval = ρ at g4 ⊢
    unfold execOp; rw [show (opAt ops7_15 6).op = .extract (.tmp 78) 1 from by kernel_rfl]; try simp only [g4]
    go_simp
   exact op_value ho (by kernel_rfl) hr (made_val (d := 84) (by kernel_rfl) rfl (J7_15_any _ hst.world) (fun _ _ _ _ h => h))
 | 7, _, h1, hdep, ho =>
   obtain ⟨A2, c2, e1, hbo⟩ := hst.got 5 (hdep 5 (by kernel_rfl))
   have g5 : a.eval (.tmp 83) = .slice A2 l.length c2 := e1
   clear e1
   have hr : (execOp a.eval (opAt ops7_15 7)).run Tryz.prog w = .ok (.value (.slice A2 l.length c2)) w := by
    clear hst hdep hd h1 hs ho
    generalize a.eval = ρ at g5 ⊢
    unfold execOp; rw [show (opAt ops7_15 7).op = .assign (.tmp 83) from by kernel_rfl]; try simp only [g5]
    go_simp
   exact op_value ho (by kernel_rfl) hr (made_val (d := 14) (by kernel_rfl) ⟨A2, c2, rfl, hbo⟩ (J7_15_any _ hst.world) (fun _ _ _ _ h => h))
 | 8, _, h1, hdep, ho =>
   have g6 : a.eval (.tmp 84) = .nilIface := hst.got 6 (hdep 6 (by kernel_rfl))
   have hr : (execOp a.eval (opAt ops7_15 8)).run Tryz.prog w = .ok (.value (.nilIface)) w := by
    clear hst hdep hd h1 hs ho
    generalize a.eval = ρ at g6 ⊢
    unfold execOp; rw [show (opAt ops7_15 8).op = .assign (.tmp 84) from by kernel_rfl]; try simp only [g6]
    go_simp
   exact op_value ho (by kernel_rfl) hr (made_val (d := 9) (by kernel_rfl) rfl (J7_15_any _ hst.world) (fun _ _ _ _ h => h))
 | k + 9, hi, _, _, _ => exact absurd hi (by omega)
set_option maxHeartbeats 3200000 in
theorem turn7_15 {x0 x1 x2 x3 x4 x5 x6 x7 x8 x9 x10 x11 x12 x13 x14 x15 x16 x17 x18 x19 x20 x21 x22 x23 x24 x25 x26 x27 x28 x29 x30 x31 x32 x33 x34 x35 x36 x37 x38 x39 x40 x41 x42 x43 x44 x45 x46 x47 x48 x49 x50 x51 x52 x53 x54 x55 x56 x57 x58 x59 x60 x61 x62 x63 x64 x65 x66 x67 x68 x69 x70 x71 x72 x73 x74 x75 x76 x77 x78 x79 x80 x81 x82 x83 x84 x85 x86 x87 x88 x89 x90 x91 z9 z14 : Value} {D : _} {a : Act} (hl : Left 92 ops7_15 a (Act.mk #[x0, x1, x2, x3, x4, x5, x6, x7, x8, x9, x10, x11, x12, x13, x14, x15, x16, x17, x18, x19, x20, x21, x22, x23, x24, x25, x26, x27, x28, x29, x30, x31, x32, x33, x34, x35, x36, x37, x38, x39, x40, x41, x42, x43, x44, x45, x46, x47, x48, x49, x50, x51, x52, x53, x54, x55, x56, x57, x58, x59, x60, x61, x62, x63, x64, x65, x66, x67, x68, x69, x70, x71, x72, x73, x74, x75, x76, x77, x78, x79, x80, x81, x82, x83, x84, x85, x86, x87, x88, x89, x90, x91] D)) (h9 : a.eval (.tmp 9) = z9) (h14 : a.eval (.tmp 14) = z14) : ∃ z78 z79 z80 z81 z82 z83 z84, a = ⟨#[x0, x1, x2, x3, x4, x5, x6, x7, x8, z9, x10, x11, x12, x13, z14, x15, x16, x17, x18, x19, x20, x21, x22, x23, x24, x25, x26, x27, x28, x29, x30, x31, x32, x33, x34, x35, x36, x37, x38, x39, x40, x41, x42, x43, x44, x45, x46, x47, x48, x49, x50, x51, x52, x53, x54, x55, x56, x57, x58, x59, x60, x61, x62, x63, x64, x65, x66, x67, x68, x69, x70, x71, x72, x73, x74, x75, x76, x77, z78, z79, z80, z81, z82, z83, z84, x85, x86, x87, x88, x89, x90, x91], D⟩ := by
 subst h9
 subst h14
 exact ⟨a.eval (.tmp 78), a.eval (.tmp 79), a.eval (.tmp 80), a.eval (.tmp 81), a.eval (.tmp 82), a.eval (.tmp 83), a.eval (.tmp 84), (turn_gen [9, 14, 78, 79, 80, 81, 82, 83, 84] (by kernel_rfl) (by kernel_rfl) hl.1 hl.2.1 hl.2.2).trans (by kernel_rfl)⟩
end Go.Proofs.YtoimjnmhinfbkaaGreatDoor

namespace Go.Proofs.YtoimjnmhinfbkaaGreatDoor
open Go.RowKit
set_option maxRecDepth 100000
def ParseD (w : World) (r : Except (Int × ByteArray) DescT) (e : Ending) (w' : World) : Prop :=
 ∃ ev, e = .returned (.tuple #[descV (descE r), ev]) ∧ ErrAt w.heap.size w' ev (codeE r) (whereE r) ∧ Below w.heap.size w w'
set_option maxHeartbeats 1600000 in
theorem parse_desc (v : V) (cs : List Value) (w : World) (S : Nat → Prop) (hg : Glob w) (hv : v.Rep w S cs) (hb : v.bulk ≤ 4194304) :
  Calls Tryz.prog 24 #[.agg cs.toArray] w (ParseD w (takeA v ⟨#[]⟩)) := by
 have HT := Lib.hid (fun W (hW : Below w.heap.size w W) bv bg hbv hbg hB => try_take69 v cs W S bv bg w.heap.size (hg.below hW) hbv (hv.agree fun b hs hlt => ⟨hW.block b hlt, hs⟩) hb hbg hB)
 generalize hr : takeA v ⟨#[]⟩ = r at *
 have HR := Lib.hid hr
 obtain ⟨A, ca, B, cb, rfl, -⟩ := hv.open
 clear hv hg hr
 have hmf : ∀ (fn : Fn) (first cap : Array Value) (w : World), (Instr.makeFunc fn first cap).run Tryz.prog w = .ok (.func fn first cap) w := fun _ _ _ _ => rfl
 go_enter Tryz.func24, Tryz.ntmps24
 go_wp2_with fail
 refine (HT.out _ (by (repeat (first | with_reducible refine Below.alloc ?_ (by first | (simp; done) | (simp; omega)) _)); exact Below.refl _ _) w.heap.size (w.heap.size + 1 + 1) (by (repeat rw [alloc_before (by first | (simp; done) | (simp; omega))]); exact alloc_at rfl) (by exact alloc_at (by simp)) (by omega)).mono ?_
 rintro e w1 ⟨ev, rfl, hev, hb1, hal, hd⟩
 have hx : w1.heap[w.heap.size + 1]? = some (.cells #[.string ⟨#[]⟩, .string ⟨#[]⟩, .int .i64 0, .string ⟨#[]⟩, .string ⟨#[]⟩, .string ⟨#[]⟩] 62 (0, 0)) := (hal.block _ (by omega) (by simp)).trans ((alloc_before (by simp)).trans (alloc_at (by simp)))
 have hs := hal.size
 simp at hs hev
 have HBW := Lib.hid ((((((Below.refl w.heap.size w).alloc (Nat.le_refl _) _).alloc (by simp) _).alloc (by simp; omega) _)).trans hb1)
 have cx := fun o => cell_of_row w1 (w.heap.size + 1) o _ 62 (0, 0) hx
 have fx : ∀ o, w1.frozen? ⟨w.heap.size + 1, o, none⟩ = false := fun o => by simp [World.frozen?, hx]
 have hne : ∀ g, w.heap.size + 1 + 1 + 1 ≤ g → g ≠ w.heap.size + 1 := fun g h => by omega
 cases r with
 | ok r =>
  obtain ⟨r1, r2, r3, r4, r5, r6⟩ := r
  have hev2 : ev = .nilIface := by
   rcases hev with h | ⟨g, h1, h2, h3, h4⟩
   ·exact h.1
   ·exact absurd rfl h3
  subst hev2
  have cd := fun o => cell_of_row w1 (w.heap.size + 1 + 1) o _ 62 (0, 0) hd
  simp only [descC, descE] at cd
  clear hev hal hd hx hb1 hne
  go_wp2
  refine bodyPost_ret (v := .tuple #[.agg #[.string r1, .string r2, .int .i64 r3, .string r4, .string r5, .string r6], .nilIface]) (by simp [results, Tryz.results24, go_sem, cx, fx]) rfl ?_
  refine ⟨.nilIface, rfl, .inl ⟨rfl, rfl, rfl⟩, ?_⟩
  (repeat (first | with_reducible refine Below.setCell ?_ (by simp) _))
  exact HBW.out
 | error b =>
  obtain ⟨c, z⟩ := b
  have hcz := takeA_codes HR.out
  obtain ⟨g, rfl, h2, h3, h4⟩ := hev.resolve_left (fun h => hcz h.2.1)
  have HG4 := Lib.hid h4
  have hgn : g ≠ w.heap.size + 1 := by omega
  clear hev hal hd hx hb1 hne hcz h4 h3
  go_wp2
  refine bodyPost_ret (v := .tuple #[.agg #[.string ⟨#[]⟩, .string ⟨#[]⟩, .int .i64 0, .string ⟨#[]⟩, .string ⟨#[]⟩, .string ⟨#[]⟩], .iface 106 (.pointer (some ⟨g, 0, none⟩))]) (by simp [results, Tryz.results24, go_sem, cx, fx]) rfl ?_
  refine ⟨_, rfl, .inr ⟨g, rfl, by omega, takeA_codes HR.out, ?_⟩, ?_⟩
  ·(repeat (first | rw [Below.heap_setCell _ _ _ _ (by show g ≠ _; omega)]))
   exact HG4.out
  ·(repeat (first | with_reducible refine Below.setCell ?_ (by simp) _))
   exact HBW.out
end Go.Proofs.YtoimjnmhinfbkaaGreatDoor

namespace Go.Proofs.YtoimjnmhinfbkaaGreatDoor
open Go.RowKit
set_option maxRecDepth 100000
def txV (s : ByteArray) : V := .mk 3 false s [] []
def aliveD : V := .mk 5 false ⟨#[]⟩ [txV ⟨#[120]⟩, txV ⟨#[97]⟩, .mk 2 false ⟨#[48]⟩ [] []] [⟨#[100, 105, 103, 101, 115, 116]⟩, ⟨#[109, 101, 100, 105, 97, 84, 121, 112, 101]⟩, ⟨#[115, 105, 122, 101]⟩]
theorem aliveD_takes : takeA aliveD ⟨#[]⟩ = .error (2, ⟨#[100, 105, 103, 101, 115, 116]⟩) := by kernel_rfl
theorem row_sub {W : World} {m o : Nat} {cs : Array Value} {t : TypeId} (h : W.heap[m]? = some (.cells cs t (0, 0))) (l : List Value) (hl : ∀ i, ∀ h : i < l.length, cs[o + i]? = some l[i]) : Row W m o l := fun i hi => by
 rw [cell_of_row W m _ _ t (0, 0) h]; exact hl i hi
theorem tx_rep (W : World) (S : Nat → Prop) (k : Int) (s : ByteArray) : (V.mk k false s [] []).Rep W S [.int .i64 k, .bool false, .string s, .slice none 0 0, .slice none 0 0] :=
 ⟨none, 0, none, 0, rfl, Nat.le_refl _, Nat.le_refl _, .inl rfl, .inl rfl⟩
theorem aliveD_rep (W : World) (n m : Nat) (h0 : W.heap[n]? = some (.cells #[.string ⟨#[100, 105, 103, 101, 115, 116]⟩, .string ⟨#[109, 101, 100, 105, 97, 84, 121, 112, 101]⟩, .string ⟨#[115, 105, 122, 101]⟩] 9 (0, 0)))
  (h1 : W.heap[m]? = some (.cells #[.int .i64 3, .bool false, .string ⟨#[120]⟩, .slice none 0 0, .slice none 0 0, .int .i64 3, .bool false, .string ⟨#[97]⟩, .slice none 0 0, .slice none 0 0, .int .i64 2, .bool false, .string ⟨#[48]⟩, .slice none 0 0, .slice none 0 0] 27 (0, 0))) :
  aliveD.Rep W (fun _ => True) [.int .i64 5, .bool false, .string ⟨#[]⟩, .slice (some ⟨m, 0, none⟩) 3 3, .slice (some ⟨n, 0, none⟩) 3 3] := by
 refine ⟨_, 3, _, 3, rfl, Nat.le_refl _, Nat.le_refl _, .inr ⟨_, 0, rfl, trivial, row_of_heap h0⟩, .inr ⟨_, 0, rfl, trivial, ⟨_, row_sub h1 [.int .i64 3, .bool false, .string ⟨#[120]⟩, .slice none 0 0, .slice none 0 0] ?_, tx_rep _ _ _ _⟩, ⟨_, row_sub h1 [.int .i64 3, .bool false, .string ⟨#[97]⟩, .slice none 0 0, .slice none 0 0] ?_, tx_rep _ _ _ _⟩, ⟨_, row_sub h1 [.int .i64 2, .bool false, .string ⟨#[48]⟩, .slice none 0 0, .slice none 0 0] ?_, tx_rep _ _ _ _⟩, trivial⟩⟩
 all_goals
  intro i hi
  rcases i with _ | _ | _ | _ | _ | i
  all_goals first | rfl | (simp at hi; omega)
theorem text68 (s : ByteArray) (w : World) : Calls Tryz.prog 68 #[.string s] w fun e w' => e = .returned (.agg #[.int .i64 3, .bool false, .string s, .slice none 0 0, .slice none 0 0]) ∧ Below w.heap.size w w' := by
 go_enter Tryz.func68, Tryz.ntmps68
 go_wp2
 refine bodyPost_ret (v := .agg #[.int .i64 3, .bool false, .string s, .slice none 0 0, .slice none 0 0]) (by simp [results, Tryz.results68, go_sem]) rfl ⟨rfl, ?_⟩
 (repeat (first | with_reducible refine Below.setCell ?_ (by simp) _))
 exact (Below.refl _ _).alloc (Nat.le_refl _) _
set_option maxHeartbeats 1600000 in
theorem alive23 (w : World) (hg : Glob w) : Calls Tryz.prog 23 #[] w fun e w' => e = .returned (.bool true) ∧ Below w.heap.size w w' := by
 have HG := Lib.hid hg
 clear hg
 go_enter Tryz.func23, Tryz.ntmps23
 go_wp2_with fail
 refine (text68 _ _).mono ?_
 rintro e w1 ⟨rfl, hb1⟩
 have HB1 := Lib.hid hb1
 have z1 := hb1.size
 simp at z1
 clear hb1
 go_wp2_with fail
 refine (text68 _ _).mono ?_
 rintro e w2 ⟨rfl, hb2⟩
 have HB2 := Lib.hid hb2
 have z2 := hb2.size
 (try simp at z2)
 clear hb2
 go_wp2_with fail
 refine (parse_desc aliveD _ _ (fun _ => True) (HG.out.below ?_) (aliveD_rep _ w.heap.size w2.heap.size ?_ ?_) (by decide)).mono ?_
 ·exact (((((Below.refl _ _).alloc (Nat.le_refl _) _).trans (HB1.out.mono (by simp))).trans (HB2.out.mono (by omega))).alloc (by omega) _)
 ·rw [alloc_before (by omega), HB2.out.block _ (by omega), HB1.out.block _ (by simp)]
  exact alloc_at rfl
 ·exact alloc_at rfl
 ·rintro e w3 ⟨ev, rfl, hev, hb3⟩
  rw [aliveD_takes] at hev ⊢
  obtain ⟨g, rfl, h2, h3, h4⟩ := hev.resolve_left (fun h => by have := h.2.1; simp [codeE] at this)
  have hlt : g < w3.heap.size := (Array.getElem?_eq_some_iff.1 h4).1
  have c0 := cell_of_row w3 g 0 _ 114 (0, 0) h4
  have c1 := cell_of_row w3 g 1 _ 114 (0, 0) h4
  simp only [codeE, whereE, descE, descV] at c0 c1 ⊢
  have HB3 := Lib.hid hb3
  have C0 := Lib.hid c0
  have C1 := Lib.hid c1
  have hs3 : w2.heap.size + 1 ≤ w3.heap.size := by have := hb3.size; simpa using this
  have hk : ∀ W : World, W = w3.alloc (.cells #[.string ⟨#[]⟩, .string ⟨#[]⟩, .int .i64 0, .string ⟨#[]⟩, .string ⟨#[]⟩, .string ⟨#[]⟩] 62) → W.cell? ⟨g, 0, none⟩ = some (.int .i64 2) ∧ W.cell? ⟨g, 1, none⟩ = some (.string ⟨#[100, 105, 103, 101, 115, 116]⟩) := fun W hW => by
   subst hW
   exact ⟨((cell_of_heap (alloc_before hlt)).trans c0).trans (by simp), ((cell_of_heap (alloc_before hlt)).trans c1).trans (by simp)⟩
  have HK := Lib.hid hk
  clear hev h3 h4 c0 c1 hb3 hk
  go_wp2_with (first | (go_at_call 14; refine (code_fault g 2 _ (HK.out _ rfl).1).mono ?_; rintro e w4 ⟨rfl, rfl⟩) | (go_at_call 15; refine (where_fault g _ _ (HK.out _ rfl).2).mono ?_; rintro e w4 ⟨rfl, rfl⟩))
  go_ret
  exact ⟨rfl, (((((((Below.refl _ _).alloc (Nat.le_refl _) _).trans (HB1.out.mono (by simp))).trans (HB2.out.mono (by omega))).alloc (by omega) _)).trans (HB3.out.mono (by simp; omega))).alloc (by omega) _⟩
end Go.Proofs.YtoimjnmhinfbkaaGreatDoor
