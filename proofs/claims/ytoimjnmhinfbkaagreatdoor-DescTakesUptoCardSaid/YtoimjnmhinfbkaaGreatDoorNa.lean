import Derived.Test.YtoimjnmhinfbkaaGreatDoorN
namespace Go.Proofs.YtoimjnmhinfbkaaGreatDoor
open Go.RowKit
set_option maxRecDepth 100000

/-- a figure of a name: 0 to 9, a to f. -/
def lowhex (c : UInt8) : Bool := dig c || (97 ≤ c && c ≤ 102)
/-- a blob's name. -/
def nameB (l : List UInt8) : Bool := l.length == 71 && l.take 7 == [115, 104, 97, 50, 53, 54, 58] && (l.drop 7).all lowhex

theorem lowhex_iff (c : UInt8) : lowhex c = true ↔ (48 ≤ (c.toNat : Int) ∧ (c.toNat : Int) ≤ 57) ∨ (97 ≤ (c.toNat : Int) ∧ (c.toNat : Int) ≤ 102) := by
  unfold lowhex
  rw [Bool.or_eq_true, dig_iff]
  simp [UInt8.le_iff_toNat_le]
  omega

set_option maxHeartbeats 800000 in
theorem isref_any (l : List UInt8) (w : World) (hl : l.length ≤ 1073741824) :
    Calls Tryz.prog 72 #[.string ⟨l.toArray⟩] w fun e w' => e = .returned (.bool (nameB l)) ∧ w' = w := by
  by_cases h71 : l.length = 71
  case neg =>
    have hn : nameB l = false := by simp [nameB, h71]
    have HN := Lib.hid hn
    have h71' : ((l.length : Int) != 71) = true := by simp; omega
    clear hn
    go_enter Tryz.func72, Tryz.ntmps72
    go_wp2
    go_ret
    exact ⟨by rw [HN.out]; rfl, rfl⟩
  have h71' : ((l.length : Int) != 71) = false := by simp; omega
  have hI : (l.length : Int) = 71 := by omega
  have e7 : ((⟨l.toArray⟩ : ByteArray).extract 0 7).toList = l.take 7 := by
    rw [ba_extract]
    simp [ByteArray.toList_eq]
  by_cases hp : l.take 7 = [115, 104, 97, 50, 53, 54, 58]
  case neg =>
    have hn : nameB l = false := by simp [nameB, hp]
    have HN := Lib.hid hn
    have hx : (l.take 7 == [115, 104, 97, 50, 53, 54, 58]) = false := by simpa using hp
    clear hn
    go_enter Tryz.func72, Tryz.ntmps72
    go_wp2
    go_ret
    exact ⟨by rw [HN.out]; rfl, rfl⟩
  rw [hp] at e7
  have hall : nameB l = (l.drop 7).all lowhex := by simp [nameB, h71, hp]
  have HA := Lib.hid hall
  clear hall
  go_enter Tryz.func72, Tryz.ntmps72
  go_wp2
  go_loop [3] (fun i => ∃ k : Nat, 7 ≤ k ∧ k ≤ 71 ∧ i = .int .i64 k ∧ ((l.drop 7).take (k - 7)).all lowhex = true) (fun i => 71 - (intOf i).toNat)
  case atStart => exact ⟨7, Nat.le_refl _, by omega, rfl, by simp⟩
  case round =>
    obtain ⟨k, hk7, hk, rfl, hd⟩ := hrel
    have HD := Lib.hid hd
    clear hd
    by_cases hlt : k < 71
    · have hk0 : (0 : Int) ≤ (k : Int) := Int.natCast_nonneg _
      have hk1 : (k : Int) < 71 := by omega
      have hkl : (k : Int) < (l.length : Int) := by omega
      have hsz : k < (⟨l.toArray⟩ : ByteArray).size := by show k < l.length; omega
      have hx := lowhex_iff l[k]
      have hstep : lowhex l[k] = true → ((l.drop 7).take (k + 1 - 7)).all lowhex = true := fun h => by
        rw [show k + 1 - 7 = (k - 7) + 1 by omega, List.take_succ_eq_append_getElem (by simp; omega), List.all_append, HD.out]
        simp only [List.all_cons, List.all_nil, Bool.and_true, Bool.true_and, List.getElem_drop]
        rw [← h]; congr 1; congr 1; omega
      have hfail : lowhex l[k] = false → nameB l = false := fun h => by
        rw [HA.out, List.all_eq_false]
        exact ⟨l[k], List.mem_drop_iff_getElem.2 ⟨k - 7, by omega, by congr 1; omega⟩, by simp [h]⟩
      have HX := Lib.hid hx
      have HSTEP := Lib.hid hstep
      have HFAIL := Lib.hid hfail
      clear hx hstep hfail
      by_cases a1 : 48 ≤ (((⟨l.toArray⟩ : ByteArray)[k]'hsz).toNat : Int) <;> by_cases a2 : (((⟨l.toArray⟩ : ByteArray)[k]'hsz).toNat : Int) ≤ 57 <;> by_cases a3 : 97 ≤ (((⟨l.toArray⟩ : ByteArray)[k]'hsz).toNat : Int) <;> by_cases a4 : (((⟨l.toArray⟩ : ByteArray)[k]'hsz).toNat : Int) ≤ 102
      all_goals first
        | (exfalso; omega)
        | (have hg := Lib.hid (HSTEP.out (HX.out.2 (by first | exact .inl ⟨a1, a2⟩ | exact .inr ⟨a3, a4⟩)))
           go_wp2
           go_round
           case rel => exact ⟨k + 1, by omega, hlt, by go_num, hg.out⟩
           case measure => simp [intOf]; omega)
        | (have hg := Lib.hid (HFAIL.out (by rw [← Bool.not_eq_true]; exact fun h => by rcases HX.out.1 h with h | h <;> first | exact a1 h.1 | exact a2 h.2 | exact a3 h.1 | exact a4 h.2))
           go_wp2
           go_ret
           exact ⟨by rw [hg.out]; rfl, rfl⟩)
    · have hk1 : ¬ (k : Int) < 71 := by omega
      have hg : nameB l = true := by
        rw [HA.out]
        have := HD.out
        rwa [List.take_of_length_le (by simp; omega)] at this
      have HG := Lib.hid hg
      clear hg
      go_wp2
      go_ret
      exact ⟨by rw [HG.out]; rfl, rfl⟩

end Go.Proofs.YtoimjnmhinfbkaaGreatDoor
