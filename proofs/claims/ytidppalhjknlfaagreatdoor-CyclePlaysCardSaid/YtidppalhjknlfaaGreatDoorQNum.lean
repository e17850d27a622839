/- The walks of kv's Number and Set on a store in memory. -/
import Derived.Test.YtidppalhjknlfaaGreatDoorQMShelf
import Derived.Test.YtidppalhjknlfaaGreatDoorQKey
import Derived.Handy
import Derived.Deep.RegionWith
import Derived.Laws.Bits64b
namespace Go.Proofs.YtidppalhjknlfaaGreatDoor
open Go.RowKit
set_option maxRecDepth 100000
set_option linter.unusedVariables false
set_option linter.unusedSimpArgs false
/-- the number that bytes are, the highest first -/
def valN (l : List UInt8) : Nat := l.foldl (fun n b => n * 256 + b.toNat) 0
theorem valN_snoc (l : List UInt8) (b : UInt8) : valN (l ++ [b]) = valN l * 256 + b.toNat := by simp [valN, List.foldl_append]
theorem valN_lt (l : List UInt8) : valN l < 256 ^ l.length := by
  have : ∀ (r : List UInt8), valN r.reverse < 256 ^ r.length := by
    intro r
    induction r with
    | nil => decide
    | cons b r ih =>
      rw [List.reverse_cons, valN_snoc, List.length_cons, Nat.pow_succ]
      have := b.toNat_lt
      omega
  simpa using this l.reverse
def sV (p : Nat) : Value := .iface 24 (pV p)
/-- what Number answers -/
def numOf (o : Option ByteArray) : Int := match o with | some s => if s.size = 8 then valN s.data.toList else 0 | none => 0
def numE (o : Option ByteArray) : Int := match o with | some s => if s.size = 8 then 0 else 10 | none => 0
set_option maxHeartbeats 2000000
theorem number_any (p : Nat) (room : Int) (b1 b2 : Nat) (now was : AL) (kv : Value) (k : ByteArray) (w : World) (hM : MemIs w p room b1 b2 now was) (hK : BS w kv k) (hv : ∀ v, AL.get k now = some v → v.size ≤ 9223372036854775807) :
    Calls Tryz.prog 58 #[sV p, kv] w fun e w' => e = .returned (.tuple #[.int .u64 (numOf (AL.get k now)), .int .i64 (numE (AL.get k now))]) ∧ Below w.heap.size w w' := by
  have hcon := Lib.hid (get_any p room b1 b2 now was kv k w hM hK hv)
  obtain ⟨N, hN⟩ : ∃ N, N = numOf (AL.get k now) := ⟨_, rfl⟩
  obtain ⟨E, hE⟩ : ∃ E, E = numE (AL.get k now) := ⟨_, rfl⟩
  rw [← hN, ← hE]
  unfold sV
  unfold pV at *
  clear hM hK hv
  go_enter Tryz.func58, Tryz.ntmps58
  go_wp2_with fail
  refine (hcon.out).mono ?_
  rintro e w1 ⟨v, rfl, h1, h2⟩
  have HB1 := Lib.hid h2
  have HV := Lib.hid h1.1
  clear h1 h2 hcon
  cases hg : AL.get k now with
  | none =>
    rw [hg] at hN hE
    simp only [Option.isSome_none]
    clear hg HV
    go_wp2
    go_ret2
    exact ⟨by rw [hN, hE]; rfl, HB1.out⟩
  | some s =>
    rw [hg] at hN hE HV
    rw [Option.getD_some] at HV
    simp only [numOf, numE] at hN hE
    simp only [Option.isSome_some]
    by_cases h8 : s.size = 8
    · rw [if_pos h8] at hN hE
      obtain ⟨a, cap, rfl, _⟩ := HV.out.len2 h8
      have hl8 : s.data.toList.length = 8 := by rw [data_len]; exact h8
      clear hg
      go_wp2_with fail
      go_loop [9, 33] (fun n i => ∃ j : Nat, j ≤ 8 ∧ i = .int .i64 j ∧ n = .int .u64 (valN (s.data.toList.take j))) (fun _ i => 8 - (intOf i).toNat)
      case atStart => exact ⟨0, by omega, rfl, rfl⟩
      case round =>
        obtain ⟨j, hj, rfl, rfl⟩ := hrel
        by_cases hlt : j < 8
        · obtain ⟨b, off, rfl, hc⟩ := HV.out.at_ (i := j) (by omega)
          have hcj := hc j (by omega)
          have hval : valN (s.data.toList.take (j + 1)) = valN (s.data.toList.take j) * 256 + (s.data.toList.getD j 0).toNat := by
            rw [List.take_succ_eq_append_getElem (by omega), valN_snoc, List.getD_eq_getElem?_getD, List.getElem?_eq_getElem (by omega)]; rfl
          have hb : (s.data.toList.getD j 0).toNat < 256 := UInt8.toNat_lt _
          have hn : valN (s.data.toList.take j) < 256 ^ 7 := by
            have := valN_lt (s.data.toList.take j)
            rw [List.length_take, hl8] at this
            exact Nat.lt_of_lt_of_le this (Nat.pow_le_pow_right (by decide) (by omega))
          generalize (s.data.toList.getD j 0).toNat = x at hcj hval hb
          generalize valN (s.data.toList.take j) = y at hval hn ⊢
          clear hc
          go_wp2
          go_round
          case rel =>
            refine ⟨j + 1, by omega, by go_num, ?_⟩
            rw [hval]
            have h1 : y * 256 < 18446744073709551616 := by omega
            have h2 := bits_or_u64_nat (y * 256) x h1 (by omega)
            have h3 : y * 256 ||| x = y * 256 + x := by
              have := Nat.two_pow_add_eq_or_of_lt (i := 8) (b := x) hb y
              rw [Nat.mul_comm y 256]; exact this.symm
            rw [h3] at h2
            rw [show ((y : Int) * 256) = ((y * 256 : Nat) : Int) by omega, h2]
          case measure => simp [intOf]; omega
        · have hje : j = 8 := by omega
          subst hje
          go_wp2
          go_ret2
          rw [show s.data.toList.take 8 = s.data.toList from List.take_of_length_le (by omega)]
          subst hN; subst hE
          exact ⟨rfl, HB1.out⟩
    · rw [if_neg h8] at hN hE
      obtain ⟨a, cap, rfl⟩ := HV.out.len
      have h8' : ((s.size : Int) == 8) = false := beq_eq_false_iff_ne.2 (by omega)
      clear hg
      go_wp2
      go_ret2
      exact ⟨by rw [hN, hE]; rfl, HB1.out⟩
/-- what Set answers and leaves -/
def setE (room : Int) (now : AL) (k : ByteArray) (n : Int) : Int := if n = 0 then 0 else putE room now k (be8 n)
def setA (room : Int) (now : AL) (k : ByteArray) (n : Int) : AL := if n = 0 then AL.del k now else putA room now k (be8 n)
theorem nil_put (b : Nat) (w : World) : (nilAhead 289 24 (.pointer (some ⟨b, 0, none⟩)) "Put").run Tryz.prog w = .ok (some false) w := by kernel_rfl
theorem set_any (p : Nat) (room : Int) (b1 b2 : Nat) (now was : AL) (kv : Value) (k : ByteArray) (n : Int) (h0 : 0 ≤ n) (h1 : n ≤ 18446744073709551615) (w : World) (hM : MemIs w p room b1 b2 now was) (hK : BS w kv k) (hl : now.length ≤ 9223372036854775807) :
    Calls Tryz.prog 56 #[sV p, kv, .int .u64 n] w fun e w' => e = .returned (.int .i64 (setE room now k n)) ∧ MemIs w' p room b1 b2 (setA room now k n) was ∧ Keep (fun i => i = b1) w w' := by
  obtain ⟨E, hE⟩ : ∃ E, E = setE room now k n := ⟨_, rfl⟩
  obtain ⟨A, hA⟩ : ∃ A, A = setA room now k n := ⟨_, rfl⟩
  rw [← hE, ← hA]
  unfold setE at hE
  unfold setA at hA
  by_cases hz : n = 0
  · rw [if_pos hz] at hE hA
    have hcon := Lib.hid (delete_any p room b1 b2 now was kv k w hM hK)
    unfold sV
    unfold pV at *
    subst hz
    clear hM hK h0 h1
    go_enter Tryz.func56, Tryz.ntmps56
    go_wp2_with fail
    refine (hcon.out).mono ?_
    rintro e w1 ⟨rfl, h1, h2⟩
    have HB1 := Lib.hid h1
    have HK1 := Lib.hid h2
    clear h1 h2 hcon
    go_wp2
    go_ret
    exact ⟨by subst hE; rfl, by rw [hA]; exact HB1.out, HK1.out⟩
  · rw [if_neg hz] at hE hA
    have hz' : (n == 0) = false := beq_eq_false_iff_ne.2 hz
    have na := nil_put p
    have HM := Lib.hid (show MemIs w.drew p room b1 b2 now was from hM.below ((Below.refl _ _).drew))
    have HK : Hid (BS w.drew kv k) := Lib.hid hK
    have hbig := Lib.hid (big_any w.heap.size (.slice none 0 0) ByteArray.empty n h0 h1 w.drew (World.ownsRow_nil _ _ _ _) (Nat.le_refl _) (by decide))
    rw [show ByteArray.empty ++ be8 n = be8 n by simp] at hbig
    unfold sV
    unfold pV at *
    clear hM hK
    go_enter Tryz.func56, Tryz.ntmps56
    go_wp2_with fail
    go_region_with (first
      | (go_at_call 52; refine (hbig.out).mono ?_; rintro e w4 ⟨v4, rfl, ho, hb⟩
         have HB4 := Lib.hid (hb.below (Nat.le_refl _) (fun k hk => by simp [Value.ownBlock] at hk)); have HO4 := Lib.hid ho.bs; have HK4 := Lib.hid (HK.out.below HB4.out); have HM4 := Lib.hid (HM.out.below HB4.out)
         clear ho hb)
      | (go_at_call 104; refine (put_any p room b1 b2 now was kv v4 k (be8 n) w4 HM4.out HK4.out HO4.out hl).mono ?_; rintro e w5 ⟨rfl, h5, h6⟩; have H5 := Lib.hid h5; have H6 := Lib.hid ((Keep.ofBelow HB4.out (fun i => i = b1)).trans h6 (fun i hi => .inl hi)); clear h5 h6))
    all_goals
      go_wp2
      go_ret
      subst hE
      exact ⟨rfl, by rw [hA]; exact H5.out, (Keep.refl _ _).drew.trans H6.out (fun i hi => .inl hi)⟩
end Go.Proofs.YtidppalhjknlfaaGreatDoor
