import Derived.Test.YtoimjnmhinfbkaaGreatDoorS11
namespace Go.Proofs.YtoimjnmhinfbkaaGreatDoor
open Go.RowKit
set_option maxRecDepth 100000
/-! the document's hash, without a program: it fills the whole text and takes block after block. -/
/-- the text that is hashed, filled. -/
def fillT (l : List Nat) : List Nat := l ++ ([128] ++ List.replicate (zerosN l.length) 0) ++ (List.range 8).map (lenB l.length)
theorem fillT_length (l : List Nat) : (fillT l).length = l.length + 1 + zerosN l.length + 8 := by unfold fillT; simp; omega
theorem fillT_mod (l : List Nat) : (fillT l).length % 64 = 0 := by rw [fillT_length]; unfold zerosN; omega
/-- the state ahead of a block. -/
def stN (kl il : List (BitVec 32)) (t : List Nat) : Nat → List (BitVec 32)
 | 0 => il
 | j + 1 => blk kl (stN kl il t j) (fun k => t.getD (64 * j + k) 0)
theorem blk_length {kl s : List (BitVec 32)} (hs : s.length = 8) (m : Nat → Nat) : (blk kl s m).length = 8 := by unfold blk; simp [hs, comp_length hs]
theorem stN_length {kl il : List (BitVec 32)} {t : List Nat} (h : il.length = 8) : ∀ j, (stN kl il t j).length = 8
 | 0 => h
 | j + 1 => blk_length (stN_length h j) _
theorem schd_congr {m m' : Nat → Nat} (h : ∀ k, k < 64 → m k = m' k) : ∀ k, schd m k = schd m' k
 | 0 => rfl
 | k + 1 => by
  simp only [schd]
  rw [schd_congr h k]
  unfold nextW
  split
  ·have : wd m k = wd m' k := by unfold wd; rw [h (4 * k) (by omega), h (4 * k + 1) (by omega), h (4 * k + 2) (by omega), h (4 * k + 3) (by omega)]
   rw [this]
  ·rfl
theorem blk_congr {kl s : List (BitVec 32)} {m m' : Nat → Nat} (h : ∀ k, k < 64 → m k = m' k) : blk kl s m = blk kl s m' := by unfold blk; rw [schd_congr h]
theorem putL_all : ∀ (l hd : List Nat) (i : Nat), i + l.length = hd.length → putL hd i l = hd.take i ++ l
 | [], hd, i, h => by
  have h' : i + 0 = hd.length := h
  rw [putL, List.append_nil, List.take_of_length_le (by omega)]
 | b :: l, hd, i, h => by
  have h' : i + (l.length + 1) = hd.length := h
  rw [putL, putL_all l _ _ (by simp; omega), List.take_succ_eq_append_getElem (by simp; omega), List.take_set_of_le (Nat.le_refl _)]
  simp
theorem feed_stN {kl il : List (BitVec 32)} (t : List Nat) (hil : il.length = 8) : ∀ j, 64 * j ≤ t.length →
  (feed kl (hash0 il) (t.take (64 * j))).s = stN kl il t j ∧ (feed kl (hash0 il) (t.take (64 * j))).hd.length = 64 ∧ (feed kl (hash0 il) (t.take (64 * j))).n = 64 * j
 | 0, _ => by
  rw [show t.take (64 * 0) = [] from rfl]
  exact ⟨rfl, by simp [feed, hash0], rfl⟩
 | j + 1, h => by
  obtain ⟨h1, h2, h3⟩ := feed_stN (kl := kl) t hil j (by omega)
  have hc : t.take (64 * (j + 1)) = t.take (64 * j) ++ (t.drop (64 * j)).take 64 := by
   rw [show 64 * (j + 1) = 64 * j + 64 by omega, List.take_add]
  have hl : ((t.drop (64 * j)).take 64).length = 64 := by simp; omega
  have hn : (feed kl (hash0 il) (t.take (64 * j))).n % 64 = 0 := by rw [h3]; omega
  rw [hc, feed_app, feed_chunk kl _ _ (by rw [hn, hl]; omega) (fun e => by rw [e] at hl; simp at hl)]
  refine ⟨?_, ?_, ?_⟩
  ·simp only [hn, hl, Nat.zero_add, if_true]
   rw [h1, stN]
   refine blk_congr fun k hk => ?_
   rw [putL_all _ _ _ (by rw [hl, h2])]
   simp only [List.take_zero, List.nil_append, List.getD_eq_getElem?_getD]
   rw [List.getElem?_take_of_lt hk, List.getElem?_drop]
  ·simp only [putL_length]; exact h2
  ·simp only [hl]; rw [h3]; omega
theorem shaL_stN (il kl : List (BitVec 32)) (l : List Nat) (hil : il.length = 8) : shaL il kl l = outB (stN kl il (fillT l) ((fillT l).length / 64)) 8 := by
 have hm := fillT_mod l
 have h := (feed_stN (kl := kl) (fillT l) hil ((fillT l).length / 64) (by omega)).1
 rw [List.take_of_length_le (by omega)] at h
 rw [← h]
 unfold shaL fillT
 simp only [feed_app]
/-- a word, byte by byte. -/
def accD (m : Nat → Nat) (k : Nat) : Nat → BitVec 32
 | 0 => 0
 | j + 1 => accD m k j * 256 + BitVec.ofNat 32 (m (4 * k + j))
theorem or_low (x y k : Nat) (h : y < 2 ^ k) : (x * 2 ^ k) ||| y = x * 2 ^ k + y := by
 rw [Nat.mul_comm]; exact (Nat.two_pow_add_eq_or_of_lt h x).symm
theorem accD_wd {m : Nat → Nat} {k : Nat} (h : ∀ k, m k < 256) : accD m k 4 = wd m k := by
 have a := h (4 * k); have b := h (4 * k + 1); have c := h (4 * k + 2); have d := h (4 * k + 3)
 simp only [accD, wd, Nat.add_zero]
 generalize m (4 * k) = p at a ⊢
 generalize m (4 * k + 1) = q at b ⊢
 generalize m (4 * k + 2) = r at c ⊢
 generalize m (4 * k + 3) = s at d ⊢
 apply BitVec.eq_of_toNat_eq
 simp only [BitVec.toNat_or, BitVec.toNat_shiftLeft, BitVec.toNat_ofNat, BitVec.toNat_add, BitVec.toNat_mul, Nat.shiftLeft_eq]
 rw [show p % 2 ^ 32 * 2 ^ 24 % 2 ^ 32 = p * 2 ^ 24 by omega, show q % 2 ^ 32 * 2 ^ 16 % 2 ^ 32 = q * 2 ^ 16 by omega, show r % 2 ^ 32 * 2 ^ 8 % 2 ^ 32 = r * 2 ^ 8 by omega, show s % 2 ^ 32 = s by omega]
 rw [or_low p (q * 2 ^ 16) 24 (by omega), show p * 2 ^ 24 + q * 2 ^ 16 = (p * 2 ^ 8 + q) * 2 ^ 16 by omega, or_low _ (r * 2 ^ 8) 16 (by omega), show (p * 2 ^ 8 + q) * 2 ^ 16 + r * 2 ^ 8 = ((p * 2 ^ 8 + q) * 2 ^ 8 + r) * 2 ^ 8 by omega, or_low _ s 8 (by omega)]
 simp only [show (0 : BitVec 32).toNat = 0 from rfl, show (256 : BitVec 32).toNat = 256 from rfl]
 omega
theorem ch_or (x y z : BitVec 32) : (x &&& y) ||| (~~~x &&& z) = ch x y z := by
 apply BitVec.eq_of_getLsbD_eq
 intro i hi
 simp only [ch, BitVec.getLsbD_or, BitVec.getLsbD_and, BitVec.getLsbD_xor, BitVec.getLsbD_not, hi, decide_true, Bool.true_and]
 cases x.getLsbD i <;> cases y.getLsbD i <;> cases z.getLsbD i <;> rfl
theorem mj_or (x y z : BitVec 32) : (x &&& y) ||| (x &&& z) ||| (y &&& z) = mj x y z := by
 apply BitVec.eq_of_getLsbD_eq
 intro i hi
 simp only [mj, BitVec.getLsbD_or, BitVec.getLsbD_and, BitVec.getLsbD_xor]
 cases x.getLsbD i <;> cases y.getLsbD i <;> cases z.getLsbD i <;> rfl
theorem nextW_doc {m : Nat → Nat} {l : List (BitVec 32)} {k : Nat} (h : 16 ≤ k) : l.getD (k - 16) 0 + l.getD (k - 7) 0 + sg0 (l.getD (k - 15) 0) + sg1 (l.getD (k - 2) 0) = nextW m l k := by
 unfold nextW
 rw [if_neg (by omega)]
 ac_rfl
/-- the constants, as the document finds them. -/
def docK : List (BitVec 32) := (prm 312).map fun p => BitVec.ofNat 32 (cubeIt p 36).1
def rootN (p : Nat) : Nat := ((List.range 21).filter fun r => decide (r * r ≤ p)).length - 1
def docH : List (BitVec 32) := ((prm 312).take 8).map fun p => BitVec.ofNat 32 (sqIt 32 (rootN p, p - rootN p * rootN p)).1
/-! limbs: what they are worth. -/
theorem mul_lt32 {a b : Nat} (ha : a < 4294967296) (hb : b < 4294967296) : a * b ≤ 18446744065119617025 := Nat.mul_le_mul (show a ≤ 4294967295 by omega) (show b ≤ 4294967295 by omega)
theorem limb_core {x y p q s0 s1 : Nat} (hx : x < 4294967296) (hy : y < 4294967296) (hp : p ≤ 18446744065119617025) (hq : q ≤ 18446744065119617025) (e0 : s0 = ((x + p % 18446744073709551616) % 18446744073709551616 + 0) % 18446744073709551616) (e1 : s1 = ((y + q % 18446744073709551616) % 18446744073709551616 + s0 / 4294967296) % 18446744073709551616) :
  s0 % 4294967296 + s1 % 4294967296 * 4294967296 + (0 + s1 / 4294967296) % 18446744073709551616 * 18446744073709551616 = x + y * 4294967296 + p + q * 4294967296 ∧ s0 % 4294967296 < 4294967296 ∧ s1 % 4294967296 < 4294967296 ∧ (0 + s1 / 4294967296) % 18446744073709551616 < 4294967296 := by omega
section
variable {t0 t1 t2 b0 b1 u0 u1 u2 u3 u4 : Nat}
theorem mid_0 (h0 : u0 < 4294967296) (h1 : u1 < 4294967296) (ht : t0 < 4294967296) (hb0 : b0 < 4294967296) (hb1 : b1 < 4294967296) : ∃ r0 r1 r2, midStep [u0, u1, 0, 0, 0] [t0, t1, t2, 0, 0] [b0, b1, 0, 0, 0] 0 = [r0, r1, r2, 0, 0] ∧ r0 + r1 * 4294967296 + r2 * 18446744073709551616 = u0 + u1 * 4294967296 + t0 * b0 + t0 * b1 * 4294967296 ∧ r0 < 4294967296 ∧ r1 < 4294967296 ∧ r2 < 4294967296 :=
 ⟨_, _, _, rfl, limb_core h0 h1 (mul_lt32 ht hb0) (mul_lt32 ht hb1) rfl rfl⟩
theorem mid_1 (h1 : u1 < 4294967296) (h2 : u2 < 4294967296) (ht : t1 < 4294967296) (hb0 : b0 < 4294967296) (hb1 : b1 < 4294967296) : ∃ r1 r2 r3, midStep [u0, u1, u2, 0, 0] [t0, t1, t2, 0, 0] [b0, b1, 0, 0, 0] 1 = [u0, r1, r2, r3, 0] ∧ r1 + r2 * 4294967296 + r3 * 18446744073709551616 = u1 + u2 * 4294967296 + t1 * b0 + t1 * b1 * 4294967296 ∧ r1 < 4294967296 ∧ r2 < 4294967296 ∧ r3 < 4294967296 :=
 ⟨_, _, _, rfl, limb_core h1 h2 (mul_lt32 ht hb0) (mul_lt32 ht hb1) rfl rfl⟩
theorem mid_2 (h2 : u2 < 4294967296) (h3 : u3 < 4294967296) (ht : t2 < 4294967296) (hb0 : b0 < 4294967296) (hb1 : b1 < 4294967296) : ∃ r2 r3 r4, midStep [u0, u1, u2, u3, 0] [t0, t1, t2, 0, 0] [b0, b1, 0, 0, 0] 2 = [u0, u1, r2, r3, r4] ∧ r2 + r3 * 4294967296 + r4 * 18446744073709551616 = u2 + u3 * 4294967296 + t2 * b0 + t2 * b1 * 4294967296 ∧ r2 < 4294967296 ∧ r3 < 4294967296 ∧ r4 < 4294967296 :=
 ⟨_, _, _, rfl, limb_core h2 h3 (mul_lt32 ht hb0) (mul_lt32 ht hb1) rfl rfl⟩
theorem mid_3 (h3 : u3 < 4294967296) (h4 : u4 < 4294967296) : midStep [u0, u1, u2, u3, u4] [t0, t1, t2, 0, 0] [b0, b1, 0, 0, 0] 3 = [u0, u1, u2, u3, u4] := by
 have e : midStep [u0, u1, u2, u3, u4] [t0, t1, t2, 0, 0] [b0, b1, 0, 0, 0] 3 = [u0, u1, u2, ((u3 + 0 * b0 % 18446744073709551616) % 18446744073709551616 + 0) % 18446744073709551616 % 4294967296, ((u4 + 0 * b1 % 18446744073709551616) % 18446744073709551616 + ((u3 + 0 * b0 % 18446744073709551616) % 18446744073709551616 + 0) % 18446744073709551616 / 4294967296) % 18446744073709551616 % 4294967296] := rfl
 rw [e, Nat.zero_mul, Nat.zero_mul]
 congr 4
 ·omega
 ·congr 1; omega
theorem mid_4 (h4 : u4 < 4294967296) : midStep [u0, u1, u2, u3, u4] [t0, t1, t2, 0, 0] [b0, b1, 0, 0, 0] 4 = [u0, u1, u2, u3, u4] := by
 have e : midStep [u0, u1, u2, u3, u4] [t0, t1, t2, 0, 0] [b0, b1, 0, 0, 0] 4 = [u0, u1, u2, u3, ((u4 + 0 * b0 % 18446744073709551616) % 18446744073709551616 + 0) % 18446744073709551616 % 4294967296] := rfl
 rw [e, Nat.zero_mul]
 congr 5
 omega
end
/-- a row of three limbs by two: the product's limbs. -/
theorem mid_val {t0 t1 t2 b0 b1 : Nat} (h0 : t0 < 4294967296) (h1 : t1 < 4294967296) (h2 : t2 < 4294967296) (hb0 : b0 < 4294967296) (hb1 : b1 < 4294967296) :
  ∃ r0 r1 r2 r3 r4, midN [t0, t1, t2, 0, 0] [b0, b1, 0, 0, 0] 5 = [r0, r1, r2, r3, r4] ∧ (r0 < 4294967296 ∧ r1 < 4294967296 ∧ r2 < 4294967296 ∧ r3 < 4294967296 ∧ r4 < 4294967296) ∧
   r0 + r1 * 4294967296 + r2 * 18446744073709551616 + r3 * 79228162514264337593543950336 + r4 * 340282366920938463463374607431768211456 = (t0 + t1 * 4294967296 + t2 * 18446744073709551616) * (b0 + b1 * 4294967296) := by
 obtain ⟨x0, x1, x2, e0, v0, q0, q1, q2⟩ := mid_0 (t1 := t1) (t2 := t2) (u0 := 0) (u1 := 0) (by omega) (by omega) h0 hb0 hb1
 obtain ⟨y1, y2, y3, e1, v1, p1, p2, p3⟩ := mid_1 (t0 := t0) (t2 := t2) (u0 := x0) (u1 := x1) (u2 := x2) q1 q2 h1 hb0 hb1
 obtain ⟨z2, z3, z4, e2, v2, w2, w3, w4⟩ := mid_2 (t0 := t0) (t1 := t1) (u0 := x0) (u1 := y1) (u2 := y2) (u3 := y3) p2 p3 h2 hb0 hb1
 refine ⟨x0, y1, z2, z3, z4, ?_, ⟨q0, p1, w2, w3, w4⟩, ?_⟩
 ·rw [midN, midN, midN, midN, midN, midN, e0, e1, e2, mid_3 w3 w4, mid_4 w4]
 ·have hd : (t0 + t1 * 4294967296 + t2 * 18446744073709551616) * (b0 + b1 * 4294967296) = t0 * b0 + t0 * b1 * 4294967296 + (t1 * b0 + t1 * b1 * 4294967296) * 4294967296 + (t2 * b0 + t2 * b1 * 4294967296) * 18446744073709551616 := by
   simp only [Nat.add_mul, Nat.mul_add]
   simp only [show ∀ a c : Nat, a * (c * 4294967296) = a * c * 4294967296 from fun a c => (Nat.mul_assoc a c _).symm, show ∀ a k c : Nat, a * k * c = a * c * k from fun a k c => Nat.mul_right_comm a k c]
   omega
  rw [hd]
  clear hd e0 e1 e2 h0 h1 h2 hb0 hb1
  omega
theorem limbs_small {x0 x1 x2 x3 x4 V : Nat} (h : x0 + x1 * 4294967296 + x2 * 18446744073709551616 + x3 * 79228162514264337593543950336 + x4 * 340282366920938463463374607431768211456 = V) (hV : V ≤ 4722366482869645213696) : x3 = 0 ∧ x4 = 0 ∧ x0 + x1 * 4294967296 + x2 * 18446744073709551616 = V := by
 have h3 : x3 = 0 := by
  rcases Nat.eq_zero_or_pos x3 with e | e
  ·exact e
  ·exfalso; omega
 have h4 : x4 = 0 := by
  rcases Nat.eq_zero_or_pos x4 with e | e
  ·exact e
  ·exfalso; omega
 refine ⟨h3, h4, ?_⟩
 omega
theorem mid_val2 {t0 t1 t2 b0 b1 T X : Nat} (h0 : t0 < 4294967296) (h1 : t1 < 4294967296) (h2 : t2 < 4294967296) (hb0 : b0 < 4294967296) (hb1 : b1 < 4294967296) (hT : t0 + t1 * 4294967296 + t2 * 18446744073709551616 = T) (hX : b0 + b1 * 4294967296 = X) :
  ∃ r0 r1 r2 r3 r4, midN [t0, t1, t2, 0, 0] [b0, b1, 0, 0, 0] 5 = [r0, r1, r2, r3, r4] ∧ (r0 < 4294967296 ∧ r1 < 4294967296 ∧ r2 < 4294967296 ∧ r3 < 4294967296 ∧ r4 < 4294967296) ∧
   r0 + r1 * 4294967296 + r2 * 18446744073709551616 + r3 * 79228162514264337593543950336 + r4 * 340282366920938463463374607431768211456 = T * X := by
 rw [← hT, ← hX]; exact mid_val h0 h1 h2 hb0 hb1
theorem limbs_small4 {x0 x1 x2 x3 x4 V : Nat} (h : x0 + x1 * 4294967296 + x2 * 18446744073709551616 + x3 * 79228162514264337593543950336 + x4 * 340282366920938463463374607431768211456 = V) (hV : V ≤ 324518553658426726783156020576256) : x4 = 0 ∧ x0 + x1 * 4294967296 + x2 * 18446744073709551616 + x3 * 79228162514264337593543950336 = V := by
 have h4 : x4 = 0 := by
  rcases Nat.eq_zero_or_pos x4 with e | e
  ·exact e
  ·exfalso; omega
 refine ⟨h4, ?_⟩
 omega
theorem limbs_cmp {z0 z1 z2 z3 V n : Nat} (w0 : z0 < 4294967296) (w1 : z1 < 4294967296) (w2 : z2 < 4294967296) (h : z0 + z1 * 4294967296 + z2 * 18446744073709551616 + z3 * 79228162514264337593543950336 = V) :
  (n < z3 ∨ (z3 = n ∧ (0 < z2 ∨ (0 < z1 ∨ 0 < z0)))) ↔ n * 79228162514264337593543950336 < V := by
 obtain ⟨r, hr⟩ : ∃ r, r = z0 + z1 * 4294967296 + z2 * 18446744073709551616 := ⟨_, rfl⟩
 have hr1 : r < 79228162514264337593543950336 := by omega
 have hr2 : (0 < z2 ∨ (0 < z1 ∨ 0 < z0)) ↔ 0 < r := by omega
 rw [hr2, ← h, ← hr]
 clear h hr hr2 w0 w1 w2
 constructor
 ·rintro (a | ⟨rfl, b⟩)
  ·have := Nat.mul_le_mul_right 79228162514264337593543950336 (show n + 1 ≤ z3 from a)
   rw [Nat.add_mul, Nat.one_mul] at this
   exact Nat.lt_of_lt_of_le (Nat.lt_add_of_pos_right (by decide)) (Nat.le_trans this (Nat.le_add_left _ _))
  ·exact Nat.lt_add_of_pos_left b
 ·intro a
  rcases Nat.lt_trichotomy n z3 with e | e | e
  ·exact .inl e
  ·exact .inr ⟨e.symm, by subst e; exact Nat.pos_of_ne_zero fun h => by subst h; rw [Nat.zero_add] at a; exact Nat.lt_irrefl _ a⟩
  ·exfalso
   have := Nat.mul_le_mul_right 79228162514264337593543950336 (show z3 + 1 ≤ n from e)
   rw [Nat.add_mul, Nat.one_mul] at this
   exact Nat.lt_irrefl _ (Nat.lt_of_lt_of_le a (Nat.le_trans (by rw [Nat.add_comm]; exact Nat.add_le_add_left (Nat.le_of_lt hr1) _) this))
theorem above_cube {x n : Nat} (hx : x ≤ 68719476736) (hn : n < 4294967296) : aboveM x n = decide (n * 79228162514264337593543950336 < x * x * x) := by
 obtain ⟨b0, hb0⟩ : ∃ b0, b0 = x % 4294967296 := ⟨_, rfl⟩
 obtain ⟨b1, hb1⟩ : ∃ b1, b1 = x / 4294967296 := ⟨_, rfl⟩
 have hxe : x = b0 + b1 * 4294967296 := by omega
 have l0 : b0 < 4294967296 := by omega
 have l1 : b1 < 4294967296 := by omega
 have hlim : limbs x = [b0, b1, 0, 0, 0] := by rw [hb0, hb1]; rfl
 clear hb0 hb1
 have hx2 : x * x ≤ 4722366482869645213696 := Nat.le_trans (Nat.mul_le_mul hx hx) (by decide)
 have hx3 : x * x * x ≤ 324518553658426726783156020576256 := Nat.le_trans (Nat.mul_le_mul hx2 hx) (by decide)
 obtain ⟨x0, x1, x2, x3, x4, e1, ⟨q0, q1, q2, q3, q4⟩, v1⟩ := mid_val2 (t0 := 1) (t1 := 0) (t2 := 0) (T := 1) (by decide) (by decide) (by decide) l0 l1 (by decide) hxe.symm
 obtain ⟨rfl, rfl, u1⟩ := limbs_small v1 (by rw [Nat.one_mul]; exact Nat.le_trans hx (by decide))
 obtain ⟨y0, y1, y2, y3, y4, e2, ⟨p0, p1, p2, p3, p4⟩, v2⟩ := mid_val2 q0 q1 q2 l0 l1 (u1.trans (Nat.one_mul x)) hxe.symm
 obtain ⟨rfl, rfl, u2⟩ := limbs_small v2 hx2
 obtain ⟨z0, z1, z2, z3, z4, e3, ⟨w0, w1, w2, w3, w4⟩, v3⟩ := mid_val2 p0 p1 p2 l0 l1 u2 hxe.symm
 obtain ⟨rfl, u3⟩ := limbs_small4 v3 hx3
 have hp : powN (limbs x) 3 = [z0, z1, z2, z3, 0] := by
  rw [hlim]
  simp only [powN]
  rw [e1, e2, e3]
 unfold aboveM
 rw [hp, Bool.eq_iff_iff]
 simp only [List.getD_cons_zero, List.getD_cons_succ, Bool.or_eq_true, Bool.and_eq_true, decide_eq_true_eq]
 clear hp e1 e2 e3 hlim
 rw [← limbs_cmp (n := n) w0 w1 w2 u3]
 exact ⟨fun h => h.elim (fun h => absurd h (Nat.lt_irrefl _)) id, .inr⟩
/-- the third power. -/
def cb (x : Nat) : Nat := x * x * x
theorem cb_lt {a b : Nat} (h : a < b) : cb a < cb b := by
 unfold cb
 have h1 : a * a ≤ b * b := Nat.mul_le_mul (by omega) (by omega)
 have h2 : a * a * a ≤ b * b * a := Nat.mul_le_mul h1 (Nat.le_refl _)
 have h3 : 0 < b * b := Nat.mul_pos (by omega) (by omega)
 have h4 : b * b * a < b * b * b := Nat.mul_lt_mul_of_pos_left h h3
 omega
theorem cb_le {a b : Nat} (h : a ≤ b) : cb a ≤ cb b := by
 rcases Nat.eq_or_lt_of_le h with h | h
 ·rw [h]; exact Nat.le_refl _
 ·exact Nat.le_of_lt (cb_lt h)
theorem cubeIt_inv (p : Nat) (hp : p < 4096) : ∀ i, i ≤ 36 → cb (cubeIt p i).1 ≤ p * 79228162514264337593543950336 ∧ p * 79228162514264337593543950336 < cb (cubeIt p i).2
 | 0, _ => by
  have h : cb 68719476736 = 4096 * 79228162514264337593543950336 := by unfold cb; rfl
  refine ⟨Nat.zero_le _, ?_⟩
  show _ < cb 68719476736
  rw [h]; omega
 | i + 1, h => by
  have ⟨h1, h2⟩ := cubeIt_inv p hp i (by omega)
  have ⟨g1, g2⟩ := cubeIt_gap p i (by omega)
  simp only [cubeIt]
  have g3 : 0 < 2 ^ (36 - i) := Nat.pow_pos (by decide)
  have hm : ((cubeIt p i).1 + (cubeIt p i).2) / 2 ≤ 68719476736 := by omega
  rw [above_cube hm (by omega)]
  by_cases hc : p * 79228162514264337593543950336 < ((cubeIt p i).1 + (cubeIt p i).2) / 2 * (((cubeIt p i).1 + (cubeIt p i).2) / 2) * (((cubeIt p i).1 + (cubeIt p i).2) / 2)
  ·simp only [hc, decide_true, if_true]
   exact ⟨h1, hc⟩
  ·simp only [hc, decide_false, Bool.false_eq_true, if_false]
   exact ⟨by unfold cb at *; omega, h2⟩
theorem cubeIt_val {p v : Nat} (hp : p < 4096) (h1 : cb v ≤ p * 79228162514264337593543950336) (h2 : p * 79228162514264337593543950336 < cb (v + 1)) : (cubeIt p 36).1 = v := by
 have ⟨g1, g2⟩ := cubeIt_inv p hp 36 (by omega)
 obtain ⟨k1, -⟩ := cubeIt_gap p 36 (by omega)
 rw [k1] at g2
 rcases Nat.lt_trichotomy (cubeIt p 36).1 v with h | h | h
 ·have := cb_le (show (cubeIt p 36).1 + 1 ≤ v by omega)
  have g2' : p * 79228162514264337593543950336 < cb ((cubeIt p 36).1 + 1) := g2
  omega
 ·exact h
 ·have := cb_le (show v + 1 ≤ (cubeIt p 36).1 by omega)
  omega
theorem sqIt_inv (p r : Nat) (hr : r * r ≤ p) (hd : p - r * r ≤ 2 * r) : ∀ i, (sqIt i (r, p - r * r)).1 * (sqIt i (r, p - r * r)).1 + (sqIt i (r, p - r * r)).2 = p * 4 ^ i
 | 0 => by simp only [sqIt, Nat.pow_zero, Nat.mul_one]; omega
 | i + 1 => by
  have h := sqIt_inv p r hr hd i
  have hb := (sqIt_bound (r, p - r * r) hd i).1
  simp only [sqIt]
  generalize sqIt i (r, p - r * r) = s at h hb
  obtain ⟨a, d⟩ := s
  simp only at h hb ⊢
  have e1 : 2 * a * (2 * a) = 4 * (a * a) := by rw [Nat.mul_mul_mul_comm]
  have e2 : (2 * a + 1) * (2 * a + 1) = 4 * (a * a) + 4 * a + 1 := by rw [Nat.add_mul, Nat.mul_add, e1]; omega
  have e3 : p * 4 ^ (i + 1) = 4 * (p * 4 ^ i) := by rw [Nat.pow_succ, ← Nat.mul_assoc, Nat.mul_comm]
  rw [e3, ← h]
  split
  ·simp only; rw [e2]; omega
  ·simp only; rw [e1]; omega
theorem sqIt_val {p r v : Nat} (hr : r * r ≤ p) (hd : p - r * r ≤ 2 * r) (h1 : v * v ≤ p * 4 ^ 32) (h2 : p * 4 ^ 32 < (v + 1) * (v + 1)) : (sqIt 32 (r, p - r * r)).1 = v := by
 have h := sqIt_inv p r hr hd 32
 have hb := (sqIt_bound (r, p - r * r) hd 32).1
 generalize sqIt 32 (r, p - r * r) = s at h hb
 obtain ⟨a, d⟩ := s
 simp only at h hb ⊢
 rw [← h] at h1 h2
 clear h
 rcases Nat.lt_trichotomy a v with e | e | e
 ·have := Nat.mul_le_mul (show a + 1 ≤ v by omega) (show a + 1 ≤ v by omega)
  rw [Nat.add_mul, Nat.mul_add] at this; omega
 ·exact e
 ·have := Nat.mul_le_mul (show v + 1 ≤ a by omega) (show v + 1 ≤ a by omega)
  omega
def cubes : List Nat := [5411319704, 6194414737, 7344290767, 8215976869, 9551921755, 10098905585, 11043570340, 11460697813, 12214315672, 13195500289, 13492127166, 14311783875, 14809980276, 15046980094, 15499789991, 16133124468, 16720292289, 16907126662, 17444216262, 17784676812, 17950125167, 18429019306, 18734950876, 19175934170, 19734090066, 20001703533, 20132865992, 20390182855, 20516441075, 20764397895, 21588763473, 21813078375, 22141143685, 22248366392, 22769593852, 22871018771, 23170020180, 23461497531, 23651862830, 23931792517, 24205322401, 24295138891, 24734567280, 24820601251, 24990902297, 25075189284, 25569408389, 26045227120, 26200031510, 26276752392, 26428864332, 26653801653, 26727943347, 27092625994, 27306805839, 27517677555, 27725365998, 27793908591, 27997534228, 28131656200, 28198240250, 28526537963, 28973835255, 29099129074]
def roots : List Nat := [6074000999, 7439101573, 9603838834, 11363415354, 14244795007, 15485724812, 17708603819, 18721328409]
def okC (k : Nat) : Bool := decide (cb (cubes.getD k 0) ≤ (prm 312).getD k 0 * 79228162514264337593543950336) && (decide ((prm 312).getD k 0 * 79228162514264337593543950336 < cb (cubes.getD k 0 + 1)) && decide ((prm 312).getD k 0 < 4096))
theorem okC_all : (List.range 64).all okC = true := by kernel_rfl
theorem cubes_length : cubes.length = 64 := by kernel_rfl
theorem map_getD_ext {f g : Nat → BitVec 32} {l m : List Nat} (hl : l.length = m.length) (h : ∀ k, k < l.length → f (l.getD k 0) = g (m.getD k 0)) : l.map f = m.map g := by
 apply List.ext_getElem (by simpa using hl)
 intro k k1 k2
 have e1 : k < l.length := by simpa using k1
 have e2 : k < m.length := by simpa using k2
 have := h k e1
 rw [List.getD_eq_getElem?_getD, List.getD_eq_getElem?_getD, List.getElem?_eq_getElem e1, List.getElem?_eq_getElem e2] at this
 rw [List.getElem_map, List.getElem_map]
 exact this
theorem docK_val : docK = cubes.map (BitVec.ofNat 32) := by
 unfold docK
 refine map_getD_ext (prm_312.trans cubes_length.symm) fun k hk => ?_
 rw [prm_312] at hk
 have h2 := List.all_eq_true.1 okC_all k (List.mem_range.2 hk)
 unfold okC at h2
 simp only [Bool.and_eq_true, decide_eq_true_eq] at h2
 rw [cubeIt_val h2.2.2 h2.1 h2.2.1]
def okR (k : Nat) : Bool := decide (roots.getD k 0 * roots.getD k 0 ≤ ((prm 312).take 8).getD k 0 * 4 ^ 32) && (decide (((prm 312).take 8).getD k 0 * 4 ^ 32 < (roots.getD k 0 + 1) * (roots.getD k 0 + 1)) && (decide (rootN (((prm 312).take 8).getD k 0) * rootN (((prm 312).take 8).getD k 0) ≤ ((prm 312).take 8).getD k 0) && decide (((prm 312).take 8).getD k 0 - rootN (((prm 312).take 8).getD k 0) * rootN (((prm 312).take 8).getD k 0) ≤ 2 * rootN (((prm 312).take 8).getD k 0))))
theorem okR_all : (List.range 8).all okR = true := by kernel_rfl
theorem docH_val : docH = roots.map (BitVec.ofNat 32) := by
 unfold docH
 refine map_getD_ext (by rw [List.length_take, prm_312]; rfl) fun k hk => ?_
 rw [List.length_take, prm_312] at hk
 have h2 := List.all_eq_true.1 okR_all k (List.mem_range.2 hk)
 unfold okR at h2
 simp only [Bool.and_eq_true, decide_eq_true_eq] at h2
 rw [sqIt_val h2.2.2.1 h2.2.2.2 h2.1 h2.2.1]
end Go.Proofs.YtoimjnmhinfbkaaGreatDoor
