/- The walk of the example of quitrentlaw16. -/
import Derived.Test.YtiadoimdohnebaaRef16
import Derived.Lib.SlBytesConst
namespace Go.Proofs.Ytiadoimdohnebaa
set_option linter.unusedVariables false
set_option linter.unusedSimpArgs false
open Go.RowKit
set_option maxRecDepth 100000
theorem US.nil (w : World) : US w (.slice none 0 0) [] := ⟨none, 0, rfl, fun i hi => absurd hi (by simp), .inl rfl⟩
theorem US.lit1 (w : World) (x : Int) (h0 : 0 ≤ x) (h1 : x ≤ 18446744073709551615) (e : TypeId) : US (w.alloc (.cells #[.int .u64 x] e)) (.slice (some ⟨w.heap.size, 0, none⟩) 1 1) [x] := by
  refine ⟨_, _, rfl, fun i hi => ?_, .inr ⟨_, 0, rfl, fun i hi => ?_⟩⟩
  · have : i = 0 := by simp at hi; exact hi
    subst this; exact ⟨h0, h1⟩
  · have : i = 0 := by simp at hi; exact hi
    subst this
    rw [blk_cell (blk_new w _)]; rfl
theorem kc (w : World) (k : Nat) (C : Array Value) (n c : Nat) (h : w.heap.size = k) : (convert 23 23 (.slice (some ⟨k, 0, none⟩) n c)).run Try.prog (w.alloc (.cells C 5)) = .ok (.slice (some ⟨k, 0, none⟩) n c) (w.alloc (.cells C 5 (C.size, C.size + 1))) := by
  subst h; exact Lib.run_convert_bytes_const w _ _ C n c uBytes uByte
theorem hv49 (v : ByteArray) (h : AL.get ⟨#[97]⟩ [((⟨#[97]⟩ : ByteArray), (⟨#[49]⟩ : ByteArray))] = some v) : v.size ≤ 9223372036854775807 := by
  have e : AL.get ⟨#[97]⟩ [((⟨#[97]⟩ : ByteArray), (⟨#[49]⟩ : ByteArray))] = some ⟨#[49]⟩ := by decide
  rw [e] at h; cases h; decide
theorem goes16 (w : World) :
    Calls Try.prog 17 #[] w fun e w' => e = .returned (.bool true) ∧ Below w.heap.size w w' := by
  have hkc := kc
  go_enter Try.func17, Try.ntmps17
  go_wp2_with fail
  refine (new_any 1 _).mono ?_
  rintro e w1 ⟨p, b1, b2, rfl, hp, hb1, hb2, hM, hB⟩
  have HM1 := Lib.hid hM
  have HB1 := Lib.hid hB
  have HP := Lib.hid hp
  have HP1 := Lib.hid hb1
  have HP2 := Lib.hid hb2
  clear hM hB hp hb1 hb2
  unfold pV
  go_wp2_with fail
  refine (put_any p 1 b1 b2 [] [] _ _ ⟨#[97]⟩ ⟨#[49]⟩ _ ((HM1.out.alloc _).alloc _) ((BS.lit rfl _ ⟨#[97]⟩ _ rfl rfl (by decide)).alloc _) (BS.lit (by simp) _ ⟨#[49]⟩ _ rfl rfl (by decide)) (by decide)).mono ?_
  rintro e w2 ⟨rfl, hM, hK⟩
  rw [show putE 1 [] ⟨#[97]⟩ ⟨#[49]⟩ = 0 by decide]
  rw [show putA 1 [] ⟨#[97]⟩ ⟨#[49]⟩ = [(⟨#[97]⟩, ⟨#[49]⟩)] by decide] at hM
  have HM2 := Lib.hid hM
  have HB2 := Lib.hid (((HB1.out.alloc HB1.out.size _).alloc (by have := HB1.out.size; simp; omega) _).trans (hK.below (B := w.heap.size) (by have := HB1.out.size; simp; omega) (fun i hi => by have := HP1.out; omega)))
  clear hM hK
  go_wp2_with fail
  refine (put_any p 1 b1 b2 [(⟨#[97]⟩, ⟨#[49]⟩)] [] _ _ ⟨#[98]⟩ ⟨#[50]⟩ _ ((HM2.out.alloc _).alloc _) ((BS.lit rfl _ ⟨#[98]⟩ _ rfl rfl (by decide)).alloc _) (BS.lit (by simp) _ ⟨#[50]⟩ _ rfl rfl (by decide)) (by decide)).mono ?_
  rintro e w3 ⟨rfl, hM, hK⟩
  rw [show putE 1 [(⟨#[97]⟩, ⟨#[49]⟩)] ⟨#[98]⟩ ⟨#[50]⟩ = 3 by decide]
  rw [show putA 1 [(⟨#[97]⟩, ⟨#[49]⟩)] ⟨#[98]⟩ ⟨#[50]⟩ = [(⟨#[97]⟩, ⟨#[49]⟩)] by decide] at hM
  have HM3 := Lib.hid hM
  have HB3 := Lib.hid (((HB2.out.alloc HB2.out.size _).alloc (by have := HB2.out.size; simp; omega) _).trans (hK.below (B := w.heap.size) (by have := HB2.out.size; simp; omega) (fun i hi => by have := HP1.out; omega)))
  clear hM hK
  go_wp2_with fail
  refine (get_any p 1 b1 b2 [(⟨#[97]⟩, ⟨#[49]⟩)] [] _ ⟨#[97]⟩ _ (HM3.out.alloc _) (BS.lit rfl _ ⟨#[97]⟩ _ rfl rfl (by decide)) hv49).mono ?_
  rintro e w4 ⟨v4, rfl, hmine, hb⟩
  rw [show AL.get ⟨#[97]⟩ [((⟨#[97]⟩ : ByteArray), (⟨#[49]⟩ : ByteArray))] = some ⟨#[49]⟩ by decide] at hmine ⊢
  have HM4 := Lib.hid ((HM3.out.alloc _).below hb)
  have HV4 := Lib.hid hmine.1
  have HB4 := Lib.hid ((HB3.out.alloc HB3.out.size _).trans (hb.mono (by have := HB3.out.size; simp; omega)))
  clear hmine hb
  go_wp2_with fail
  refine (abort_any p 1 b1 b2 _ [] _ HM4.out).mono ?_
  rintro e w5 ⟨rfl, b3, h3, hM, hK⟩
  have HM5 := Lib.hid hM
  have HB5 := Lib.hid (HB4.out.trans (hK.below (B := w.heap.size) HB4.out.size (fun i hi => by have := HP.out; omega)))
  have HV5 := Lib.hid (HV4.out.keep hK (fun b o x hc hf => by
    subst hf
    rw [blk_cell HM4.out.blk] at hc
    match o, hc with
    | 0, hc => simp at hc
    | 1, hc => simp at hc
    | 2, hc => simp at hc))
  have h35 : w.heap.size ≤ b3 := Nat.le_trans HB4.out.size h3
  clear hM hK h3
  go_wp2_with fail
  refine (get_any p 1 b3 b2 [] [] _ ⟨#[97]⟩ _ (HM5.out.alloc _) (BS.lit rfl _ ⟨#[97]⟩ _ rfl rfl (by decide)) (by intro v hv; simp [AL.get] at hv)).mono ?_
  rintro e w6 ⟨v6, rfl, hmine, hb⟩
  rw [show AL.get ⟨#[97]⟩ [] = none from rfl]
  have HV6 := Lib.hid ((HV5.out.alloc _).below hb)
  have HB6 := Lib.hid ((HB5.out.alloc HB5.out.size _).trans (hb.mono (by have := HB5.out.size; simp; omega)))
  clear hmine hb
  have conv6 := HV6.out.string (P := Try.prog) 23 5 9 uBytes uByte uStr
  simp only [Option.getD_some] at conv6
  go_wp2_with fail
  refine (key_any 97 (by decide) (by decide) _ [1] _ (US.lit1 _ 1 (by decide) (by decide) _) (by decide)).mono ?_
  rintro e w7 ⟨v7, rfl, ho, hb⟩
  have HB7 := Lib.hid ((HB6.out.alloc HB6.out.size _).trans (hb.mono (by have := HB6.out.size; simp; omega)))
  have conv7 := ho.bs.string (P := Try.prog) 23 5 9 uBytes uByte uStr
  rw [show keyS 97 [1] = ⟨#[97, 0, 0, 0, 0, 0, 0, 0, 1]⟩ by decide] at conv7
  clear ho hb conv6
  go_wp2_with fail
  refine (key_any 97 (by decide) (by decide) _ [] _ (US.nil _) (by decide)).mono ?_
  rintro e w8 ⟨v8, rfl, ho, hb⟩
  have HB8 := Lib.hid (HB7.out.trans (hb.mono HB7.out.size))
  have HO8 := Lib.hid ho.bs
  clear ho hb conv7
  go_wp2_with fail
  refine (with_any _ _ _ _ HO8.out (by decide) (by decide)).mono ?_
  rintro e w9 ⟨v9, rfl, ho, hb⟩
  have HB9 := Lib.hid (HB8.out.trans (hb.mono HB8.out.size))
  have conv9 := ho.bs.string (P := Try.prog) 23 5 9 uBytes uByte uStr
  rw [show keyS 97 [] ++ ⟨#[98]⟩ = ⟨#[97, 98]⟩ by decide] at conv9
  clear ho hb
  go_wp2
  go_ret
  exact ⟨rfl, HB9.out⟩
end Go.Proofs.Ytiadoimdohnebaa
