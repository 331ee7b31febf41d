import Derived.Test.YtoimjnmhinfbkaaGreatDoorNb
import Derived.Test.YtoimjnmhinfbkaaGreatDoorI
import Derived.Maps.AppendAt
import Derived.OwnWalk
namespace Go.Proofs.YtoimjnmhinfbkaaGreatDoor
open Go.RowKit
set_option maxRecDepth 100000

theorem info5 : (Tryz.prog.info? 5).map (fun i => (i.zero, i.size, i.bytes)) = some (some (.int .u8 0), 1, 1) := by kernel_rfl

def leftOf : Value → Nat
  | .string s => s.size
  | _ => 0

/-- a figure's place among the sixteen. -/
def hexI (c : UInt8) : Int := Lib.indexByte [48, 49, 50, 51, 52, 53, 54, 55, 56, 57, 97, 98, 99, 100, 101, 102] c
theorem hexI_neg (c : UInt8) : hexI c < 0 ↔ lowhex c = false := hex_index c
theorem index_hex (c : UInt8) (w : World) : Calls Tryz.prog 168 #[.string ⟨#[48, 49, 50, 51, 52, 53, 54, 55, 56, 57, 97, 98, 99, 100, 101, 102]⟩, .int .u8 c.toNat] w fun e w' => e = .returned (.int .i64 (hexI c)) ∧ w' = w :=
  (Tryz.strings_IndexByte ⟨#[48, 49, 50, 51, 52, 53, 54, 55, 56, 57, 97, 98, 99, 100, 101, 102]⟩ c.toNat w).mono fun e w' ⟨h1, h2⟩ => ⟨by rw [h1]; unfold hexI; simp, h2⟩

/-- a byte of two figures, as the code reckons it. -/
def pairV (c d : UInt8) : Value := .int .u8 (bits BinOp.or IntKind.i64 (wrap64 (hexI c * 16)) (hexI d) % 256)
def unhexV : List UInt8 → List Value
  | c :: d :: t => pairV c d :: unhexV t
  | _ => []
theorem unhexV_take (l : List UInt8) : ∀ (j : Nat) (h : 2 * j + 1 < l.length), unhexV (l.take (2 * (j + 1))) = unhexV (l.take (2 * j)) ++ [pairV l[2 * j] l[2 * j + 1]] := by
  intro j
  induction j generalizing l with
  | zero =>
    intro h
    match l, h with
    | c :: d :: t, _ => simp [unhexV]
  | succ j ih =>
    intro h
    match l, h with
    | c :: d :: t, h =>
      have := ih t (by simp at h; omega)
      simp only [show 2 * (j + 1 + 1) = 2 * (j + 1) + 1 + 1 by omega, show 2 * (j + 1) = 2 * j + 1 + 1 by omega, List.take_succ_cons, unhexV, List.cons_append, List.getElem_cons_succ] at this ⊢
      rw [this]
theorem unhexV_int (l : List UInt8) : ∀ v ∈ unhexV l, v.oneCell' = true := by
  match l with
  | [] => intro v h; cases h
  | [_] => intro v h; cases h
  | c :: d :: t =>
    intro v h
    rcases List.mem_cons.1 h with rfl | h
    · rfl
    · exact unhexV_int t v h

def UnhexRes (w : World) (l : List UInt8) (e : Ending) (w' : World) : Prop :=
  ((hexB l = true ∧ ∃ v, e = .returned (.tuple #[v, .nilIface]) ∧ w'.ownsRow w.heap.size 5 1 v (l.length / 2) (unhexV l)) ∨ (hexB l = false ∧ e = .returned (.tuple #[.slice none 0 0, .iface 35 (.int .i64 2)]))) ∧ Below w.heap.size w w'
theorem UnhexRes.yes {w w' : World} {l : List UInt8} {v : Value} (h : hexB l = true) (ho : w'.ownsRow w.heap.size 5 1 v (l.length / 2) (unhexV l)) (hb : Below w.heap.size w w') : UnhexRes w l (.returned (.tuple #[v, .nilIface])) w' :=
  ⟨.inl ⟨h, v, rfl, ho⟩, hb⟩
theorem UnhexRes.no {w w' : World} {l : List UInt8} (h : hexB l = false) (hb : Below w.heap.size w w') : UnhexRes w l (.returned (.tuple #[.slice none 0 0, .iface 35 (.int .i64 2)])) w' :=
  ⟨.inr ⟨h, rfl⟩, hb⟩

theorem unhex_odd (l : List UInt8) (w : World) (hl : l.length ≤ 1073741824) (h2 : l.length % 2 = 1) : Calls Tryz.prog 134 #[.string ⟨l.toArray⟩] w (UnhexRes w l) := by
  have hh := Lib.hid (show hexB l = false by simp [hexB, h2])
  have hm : ((l.length : Int) % 2 != 0) = true := by simp; omega
  have hm2 : ((l.length : Int).tmod 2) = 1 := by rw [Int.tmod_eq_emod_of_nonneg (by omega)]; omega
  have hm3 : (l.length : Int) % 2 = 1 := by omega
  clear h2
  go_enter Tryz.func134, Tryz.ntmps134
  go_wp2
  go_ret2
  exact UnhexRes.no hh.out (Below.refl _ _)

/-- a round of the loop is so far. -/
def HexInv (w : World) (l : List UInt8) (s : Value) (v : Value) (j : Nat) (wr : World) : Prop :=
  2 * j ≤ l.length ∧ s = .string ⟨(l.drop (2 * j)).toArray⟩ ∧ (l.take (2 * j)).all lowhex = true ∧ wr.ownsRow w.heap.size 5 1 v j (unhexV (l.take (2 * j))) ∧ Below w.heap.size w wr

theorem owns_drewN {w : World} {base : Nat} {e : TypeId} {size : Nat} {v : Value} {n : Nat} {xs : List Value} {cs : Array Value} {t : TypeId} (h : w.ownsRow base e size v n xs) (k : Nat) : ((w.drewN k).alloc (.cells cs t)).ownsRow base e size v n xs := by
  refine World.ownsRow.alloc ?_ _
  exact h

set_option maxHeartbeats 1600000 in
theorem unhex_even (l : List UInt8) (w : World) (hl : l.length ≤ 1073741824) (h2 : l.length % 2 = 0) : Calls Tryz.prog 134 #[.string ⟨l.toArray⟩] w (UnhexRes w l) := by
  obtain ⟨i0, hi0, hz0, hzz1, hzz2⟩ := info_parts info5
  have hm : ((l.length : Int) % 2 != 0) = false := by simp; omega
  have hm2 : ((l.length : Int).tmod 2) = 0 := by rw [Int.tmod_eq_emod_of_nonneg (by omega)]; omega
  have hm3 : (l.length : Int) % 2 = 0 := by omega
  have H2 := Lib.hid h2
  clear h2
  go_enter Tryz.func134, Tryz.ntmps134
  go_wp2
  clear hm hm2 hm3
  go_loopw [0, 4] (fun s v wr => ∃ (j : Nat), HexInv w l s v j wr) (fun s _ _ => leftOf s)
  case atStart => exact ⟨0, by omega, rfl, by simp, World.ownsRow_nil _ _ _ _, Below.refl _ _⟩
  case round =>
    obtain ⟨j, hj, rfl, hd, hown, hb⟩ := hrel
    have HD := Lib.hid hd
    have HO := Lib.hid hown
    have HB := Lib.hid hb
    clear hd hown hb
    by_cases hlt : 2 * j = l.length
    · have hall : hexB l = true := by
        have := HD.out
        rw [List.take_of_length_le (by omega)] at this
        simp [hexB, H2.out, this]
      have hjl : l.length / 2 = j := by omega
      have HALL := Lib.hid hall
      have HJL := Lib.hid hjl
      have e0 : l.drop (2 * j) = [] := List.drop_eq_nil_of_le (by omega)
      rw [e0]
      clear hall hjl e0 hlt
      go_wp2
      go_ret2
      exact UnhexRes.yes HALL.out (by rw [HJL.out]; have h := HO.out; rwa [List.take_of_length_le (by have := H2.out; have := HJL.out; omega)] at h) HB.out
    · have hlt2 : 2 * j + 1 < l.length := by have := H2.out; omega
      generalize hgs : (⟨(l.drop (2 * j)).toArray⟩ : ByteArray) = s
      have hsz : s.size = l.length - 2 * j := by rw [← hgs]; show (l.drop (2 * j)).length = _; simp
      have s0 : 0 < s.size := by omega
      have s1 : 1 < s.size := by omega
      have g0 : s[0]'s0 = l[2 * j] := by
        subst hgs
        rw [ba_get _ _ (by simp; omega)]; simp
      have g1 : s[1]'s1 = l[2 * j + 1] := by
        subst hgs
        rw [ba_get _ _ (by simp; omega)]; simp
      have gx : s.extract 2 (l.length - 2 * j) = ⟨(l.drop (2 * (j + 1))).toArray⟩ := by
        rw [← hgs, ba_extract]
        congr 2
        rw [List.take_of_length_le (by simp; omega), List.drop_drop]
        congr 1
      have gl : ¬ s.toList = [] := fun h => by
        have := congrArg List.length h
        rw [← hgs, ByteArray.toList_eq] at this
        simp at this; omega
      clear hgs
      have s2 : (2 : Int) ≤ (s.size : Int) := by omega
      have s1i : (1 : Int) < (s.size : Int) := by omega
      have s0i : (0 : Int) < (s.size : Int) := by omega
      have sm : s.size ≤ 1073741824 := by omega
      have gl2 : (!s.toList.isEmpty) = true := by cases h : s.toList <;> simp_all
      have HGX := Lib.hid gx
      have HSZ := Lib.hid hsz
      have hbad : ∀ i, ∀ h : i < l.length, lowhex l[i] = false → hexB l = false := fun i h hx => by
        have : l.all lowhex = false := by
          rw [List.all_eq_false]
          exact ⟨l[i], List.getElem_mem h, by simp [hx]⟩
        simp [hexB, this]
      have B0 := Lib.hid (fun hx : lowhex l[2 * j] = false => hbad (2 * j) (by omega) hx)
      have B1 := Lib.hid (fun hx : lowhex l[2 * j + 1] = false => hbad (2 * j + 1) (by omega) hx)
      have hgood : lowhex l[2 * j] = true → lowhex l[2 * j + 1] = true → (l.take (2 * (j + 1))).all lowhex = true := fun ha hb => by
        rw [show 2 * (j + 1) = (2 * j + 1) + 1 by omega, List.take_succ_eq_append_getElem (by omega), List.take_succ_eq_append_getElem (by omega), List.all_append, List.all_append, HD.out]
        simp [ha, hb]
      have HGOOD := Lib.hid hgood
      have N0 := hexI_neg (s[0]'s0)
      have N1 := hexI_neg (s[1]'s1)
      rw [g0] at N0
      rw [g1] at N1
      have G0 := Lib.hid g0
      have G1 := Lib.hid g1
      have HN0 := Lib.hid N0
      have HN1 := Lib.hid N1
      clear gx hsz hbad hgood N0 N1 g0 g1
      by_cases c0 : hexI (s[0]'s0) < 0
      · have hno := Lib.hid (B0.out (HN0.out.1 (by rw [← G0.out]; exact c0)))
        go_wp2_with fail
        go_quiet ((go_at_call 168; exact Calls.quiet_of_same (index_hex _ _)))
        go_wp2
        go_ret2
        exact UnhexRes.no hno.out (below_drewN HB.out _)
      · by_cases c1 : hexI (s[1]'s1) < 0
        · have hno := Lib.hid (B1.out (HN1.out.1 (by rw [← G1.out]; exact c1)))
          go_wp2_with fail
          go_quiet ((go_at_call 168; exact Calls.quiet_of_same (index_hex _ _)))
          go_wp2
          go_ret2
          exact UnhexRes.no hno.out (below_drewN HB.out _)
        · go_wp2_with fail
          go_quiet ((go_at_call 168; exact Calls.quiet_of_same (index_hex _ _)))
          have hok := Lib.hid (HGOOD.out (by cases hx : lowhex l[2 * j] with | true => rfl | false => exact absurd (show hexI (s[0]'s0) < 0 by rw [G0.out]; exact HN0.out.2 hx) (by omega)) (by cases hx : lowhex l[2 * j + 1] with | true => rfl | false => exact absurd (show hexI (s[1]'s1) < 0 by rw [G1.out]; exact HN1.out.2 hx) (by omega)))
          go_wp2_with (at_builtin; (refine wpList_append_own_at _ rfl _ _ 87 rfl w.heap.size 5 i0 (.int .u8 0) 1 1 Tryz.underlying87 hi0 hz0 hzz1 hzz2 rfl (by omega) _ j _ rfl (owns_drewN HO.out _) ⟨wr.heap.size, 0, none⟩ 1 1 [_] rfl rfl (cell_one_new _ _ _) (by simp [Value.oneCell']) (by unfold maxLen; omega) (by omega) (by have := HB.out.size; simp; omega) ?_; intro v' w1 hown' hgrow hnil hloc))
          have hb1 : Below w.heap.size w w1 := ((below_drewN HB.out _).alloc HB.out.size _).grown hgrow (by have := HB.out.size; simp; omega) (fun k hk => (HO.out.lt k hk).1)
          have HB1 := Lib.hid hb1
          have HO1 := Lib.hid (show w1.ownsRow w.heap.size 5 1 v' (j + 1) (unhexV (l.take (2 * (j + 1)))) by rw [unhexV_take l j hlt2, ← G0.out, ← G1.out]; exact hown')
          clear hb1 hown' hgrow hnil hloc
          go_wp2
          go_roundw
          case rel =>
            refine ⟨j + 1, by omega, ?_, hok.out, HO1.out, HB1.out⟩
            rw [← HGX.out, ← HSZ.out]
          case measure => simp [leftOf, ByteArray.size_extract]; omega

theorem unhex_any (l : List UInt8) (w : World) (hl : l.length ≤ 1073741824) : Calls Tryz.prog 134 #[.string ⟨l.toArray⟩] w (UnhexRes w l) := by
  rcases Nat.mod_two_eq_zero_or_one l.length with h | h
  · exact unhex_even l w hl h
  · exact unhex_odd l w hl h

end Go.Proofs.YtoimjnmhinfbkaaGreatDoor
