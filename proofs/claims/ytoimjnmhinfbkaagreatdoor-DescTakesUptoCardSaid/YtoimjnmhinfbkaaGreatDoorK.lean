import Derived.Test.YtoimjnmhinfbkaaGreatDoorJ
namespace Go.Proofs.YtoimjnmhinfbkaaGreatDoor
open Go.RowKit
set_option maxRecDepth 100000

theorem conv_one (W : World) (c : Int) : (convert 87 9 (.slice (some ⟨W.heap.size, 0, none⟩) 1 1)).run Tryz.prog (W.alloc (.cells #[.int .u8 c] 5)) = .ok (.string ⟨#[UInt8.ofNat c.toNat]⟩) (W.alloc (.cells #[.int .u8 c] 5)) := by
  rw [run_convert_bytes_string _ 87 9 5 _ 1 1 Tryz.underlying87 Tryz.underlying5 Tryz.underlying9]
  refine (run_bytesToString (P := Tryz.prog) _ ⟨W.heap.size, 0, none⟩ 1 1 [c] ?_).trans ?_
  · simp [go_sem, loadCells, loadCellsFrom]
  · rfl

theorem u8_48 (n : Nat) : UInt8.ofNat (48 + n) = 48 + UInt8.ofNat n := by simp [UInt8.ofNat_add]
theorem dec_step (q : Nat) (h : 9 < q) : Lib.decDigits q = Lib.decDigits (q / 10) ++ [48 + UInt8.ofNat (q % 10)] := by
  rw [Lib.decDigits, dif_neg (by omega), u8_48]
theorem dec_last (q : Nat) (h : q ≤ 9) : Lib.decDigits q = [48 + UInt8.ofNat q] := by
  rw [Lib.decDigits, dif_pos (by omega), u8_48]

set_option maxHeartbeats 800000 in
theorem figs_any (n : Int) (w : World) (h1 : -9223372036854775808 ≤ n) (h2 : n ≤ 9223372036854775807) :
    Calls Tryz.prog 9 #[.int .i64 n] w fun e w' => e = .returned (.string ⟨(Lib.itoa n).toArray⟩) ∧ Below w.heap.size w w' := by
  have hcv := conv_one
  by_cases hn : n < 0
  · obtain ⟨mg, hm⟩ : ∃ mg : Nat, n = -(mg : Int) := ⟨n.natAbs, by omega⟩
    subst hm
    have hm1 : mg ≤ 9223372036854775808 := by omega
    have hm2 : 0 < mg := by omega
    have hi := Lib.hid (show Lib.itoa (-(mg : Int)) = 45 :: Lib.decDigits mg by unfold Lib.itoa; rw [if_pos hn]; simp)
    have he : IntKind.u64.wrap (-IntKind.u64.wrap (-(mg : Int))) = (mg : Int) := by
      rw [IntKind.wrap_u64, IntKind.wrap_u64]; omega
    go_enter Tryz.func9, Tryz.ntmps9
    go_wp2
    clear he
    go_loopw [3, 4] (fun o u wr => ∃ (q : Nat) (out : List UInt8), u = .int .u64 q ∧ o = .string ⟨out.toArray⟩ ∧ q ≤ mg ∧ Lib.decDigits mg = Lib.decDigits q ++ out ∧ Below w.heap.size w wr) (fun _ u _ => (intOf u).toNat)
    case atStart => exact ⟨mg, [], rfl, rfl, Nat.le_refl _, by simp, Below.refl _ _⟩
    case round =>
      obtain ⟨q, out, rfl, rfl, hq, hd, hb⟩ := hrel
      have HD := Lib.hid hd
      have HB := Lib.hid hb
      have hol : out.length ≤ 40 := by
        have := decDigits_length 24 mg (by omega)
        rw [hd, List.length_append] at this
        omega
      have hq0 : (0 : Int) ≤ (q : Int) := Int.natCast_nonneg _
      have hq1 : (q : Int) ≤ 9223372036854775808 := by omega
      clear hd hb
      by_cases h9 : 9 < q
      · have h9i : (9 : Int) < (q : Int) := by omega
        go_wp2
        refine ⟨⟨q / 10, (48 + UInt8.ofNat (q % 10)) :: out, by simp, congrArg Value.string (ba_append [48 + UInt8.ofNat (q % 10)] out), by omega, ?_, HB.out.alloc HB.out.size _⟩, by simp [intOf]; omega⟩
        rw [HD.out, dec_step q h9, List.append_assoc]; rfl
      · have h9i : (q : Int) ≤ 9 := by omega
        go_wp2
        go_ret
        refine ⟨?_, HB.out.alloc HB.out.size _⟩
        rw [hi.out, HD.out, dec_last q (by omega)]
        exact congrArg (fun x => Ending.returned (Value.string x)) ((congrArg (fun y => (⟨#[45]⟩ : ByteArray) ++ y) (ba_append [48 + UInt8.ofNat q] out)).trans (ba_append [45] ((48 + UInt8.ofNat q) :: out)))
  · obtain ⟨mg, hm⟩ : ∃ mg : Nat, n = (mg : Int) := ⟨n.toNat, by omega⟩
    subst hm
    have hm1 : mg ≤ 9223372036854775808 := by omega
    have hi := Lib.hid (show Lib.itoa (mg : Int) = Lib.decDigits mg by unfold Lib.itoa; rw [if_neg hn]; simp)
    have hn' : (0 : Int) ≤ (mg : Int) := by omega
    go_enter Tryz.func9, Tryz.ntmps9
    go_wp2
    go_loopw [3, 4] (fun o u wr => ∃ (q : Nat) (out : List UInt8), u = .int .u64 q ∧ o = .string ⟨out.toArray⟩ ∧ q ≤ mg ∧ Lib.decDigits mg = Lib.decDigits q ++ out ∧ Below w.heap.size w wr) (fun _ u _ => (intOf u).toNat)
    case atStart => exact ⟨mg, [], rfl, rfl, Nat.le_refl _, by simp, Below.refl _ _⟩
    case round =>
      obtain ⟨q, out, rfl, rfl, hq, hd, hb⟩ := hrel
      have HD := Lib.hid hd
      have HB := Lib.hid hb
      have hol : out.length ≤ 40 := by
        have := decDigits_length 24 mg (by omega)
        rw [hd, List.length_append] at this
        omega
      have hq0 : (0 : Int) ≤ (q : Int) := Int.natCast_nonneg _
      have hq1 : (q : Int) ≤ 9223372036854775808 := by omega
      clear hd hb
      by_cases h9 : 9 < q
      · have h9i : (9 : Int) < (q : Int) := by omega
        go_wp2
        refine ⟨⟨q / 10, (48 + UInt8.ofNat (q % 10)) :: out, by simp, congrArg Value.string (ba_append [48 + UInt8.ofNat (q % 10)] out), by omega, ?_, HB.out.alloc HB.out.size _⟩, by simp [intOf]; omega⟩
        rw [HD.out, dec_step q h9, List.append_assoc]; rfl
      · have h9i : (q : Int) ≤ 9 := by omega
        go_wp2
        go_ret
        refine ⟨?_, HB.out.alloc HB.out.size _⟩
        rw [hi.out, HD.out, dec_last q (by omega)]
        exact congrArg (fun x => Ending.returned (Value.string x)) (ba_append [48 + UInt8.ofNat q] out)

end Go.Proofs.YtoimjnmhinfbkaaGreatDoor
