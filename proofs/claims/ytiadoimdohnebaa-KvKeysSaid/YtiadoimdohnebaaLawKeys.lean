/- The walk of KvKeys. -/
import Derived.Test.YtiadoimdohnebaaGoes16
import Derived.Deep.RegionWith
namespace Go.Proofs.Ytiadoimdohnebaa
open Go.RowKit
set_option maxRecDepth 100000
theorem US.below {w w' : World} {v : Value} {ns : List Int} (h : US w v ns) (hb : Below w.heap.size w w') : US w' v ns := by
  obtain ⟨a, c, rfl, hr, hx⟩ := h
  refine ⟨a, c, rfl, hr, ?_⟩
  rcases hx with hx | ⟨b, o, rfl, hc⟩
  · exact .inl hx
  · exact .inr ⟨b, o, rfl, fun i hi => by rw [hb.cell (p := ⟨b, o + i, none⟩) (World.block_lt_of_cell? w ⟨b, o + i, none⟩ (hc i hi))]; exact hc i hi⟩
set_option maxHeartbeats 40000000 in
theorem keys_any (kind : Int) (k0 : 0 ≤ kind) (k1 : kind < 256) (nv kv : Value) (ns : List Int) (k t : ByteArray) (w : World) (hU : US w nv ns) (hK : BS w kv k) (ht : t.size ≤ maxLen) (hn : ns.length ≤ 9223372036854775807) :
    Calls Try.prog 3 #[.int .u8 kind, nv, kv, .string t] w fun e w' => e = .returned (.bool true) ∧ Below w.heap.size w w' := by
  have hU' := hU
  have hK' := hK
  obtain ⟨na, nc, rfl, _, _⟩ := hU
  have hlen := fun ty w => hK.lenRun (P := Try.prog) (t := 23) uBytes ty w
  have hkm : k.size ≤ 9223372036854775807 := by obtain ⟨a, c, _, h1, h2, _⟩ := hK; unfold maxLen at h2; omega
  unfold maxLen at ht
  clear hK
  by_cases hg : ns.length ≤ 20 ∧ k.size ≤ 200 ∧ t.size ≤ 200
  · obtain ⟨g1, g2, g3⟩ := hg
    have HU := Lib.hid hU'
    have HK := Lib.hid hK'
    have HL0 := Lib.hid (Own.litNone 5 w)
    clear hU' hK'
    have i1 : decide ((20 : Int) < (ns.length : Int)) = false := decide_eq_false (by omega)
    have i2 : decide ((200 : Int) < (k.size : Int)) = false := decide_eq_false (by omega)
    have i3 : decide ((200 : Int) < (t.size : Int)) = false := decide_eq_false (by omega)
    go_enter Try.func3, Try.ntmps3
    go_wp2_with (first
      | (at_builtin; refine wp_app_bs w.heap.size rfl _ _ 23 5 rfl uBytes iByte (.slice (some ⟨w.heap.size, 0, none⟩) 0 0) kv ByteArray.empty k rfl rfl HL0.out (HK.out.alloc _) (by simp) (by simp; omega) ?_; intro v1 w1 ho1 hg1; have HO1 := Lib.hid ho1; have HG1 := Lib.hid hg1; clear ho1 hg1)
      | (at_builtin; refine wp_app_byte w.heap.size rfl _ _ 23 5 rfl uBytes iByte v1 (ByteArray.empty ++ k) 9 rfl rfl HO1.out (by have := HG1.out.keep.size; simp at this; omega) (by simp; omega) (by decide) (by decide) ?_; intro v2 w2 ho2 hg2; have HO2 := Lib.hid ho2; have HG2 := Lib.hid hg2; clear ho2 hg2; obtain ⟨a2, c2, rfl, hc2, hc3⟩ := HO2.out.bs.len2 (n := k.size + 1) (by rw [size_append, size_append, size_one]; simp)))
    have hb2 := HO2.out.bs
    simp only [ByteArray.empty_append] at hb2
    have hk2 : BS w2 (.slice a2 k.size c2) k := hb2.front
    obtain ⟨gb, go, rfl, hcell⟩ := hb2.at_ (i := k.size) (by rw [size_append, size_one]; omega)
    have h9 := hcell k.size (by rw [size_append, size_one]; omega)
    have e9 : ((k ++ bOne 9).data.toList.getD k.size 0).toNat = 9 := by
      have e : (k ++ bOne 9).data.toList = k.data.toList ++ [9] := by simp [ByteArray.data_append, bOne]
      rw [e, List.getD_eq_getElem?_getD, List.getElem?_append_right (by rw [data_len]; omega), data_len]
      simp
    rw [e9] at h9
    have HB2 := Lib.hid ((((Below.refl w.heap.size w).alloc (Nat.le_refl _) _).trans (HG1.out.below (by simp) (fun b hb => (HL0.out.base_le b hb).1))).trans (HG2.out.below (by have := HG1.out.keep.size; simp at this; omega) (fun b hb => (HO1.out.base_le b hb).1)))
    have HK2 := Lib.hid (HK.out.below HB2.out)
    have HU2 := Lib.hid (HU.out.below HB2.out)
    have HC := Lib.hid (with_any _ k t w2 hk2 (by omega) (by omega))
    clear hb2 hcell e9 hk2 HO1 HG1 HG2 HO2
    refine HC.out.mono ?_
    rintro e w3 ⟨v3, rfl, ho, hb⟩
    have h93 : w3.cell? ⟨gb, go + k.size, none⟩ = some (.int .u8 9) := by
      rw [hb.cell (p := ⟨gb, go + k.size, none⟩) (World.block_lt_of_cell? w2 ⟨gb, go + k.size, none⟩ h9)]; exact h9
    have HO3 := Lib.hid ho
    have HB3 := Lib.hid (HB2.out.trans (hb.mono HB2.out.size))
    have HK3 := Lib.hid (HK2.out.below hb)
    have HU3 := Lib.hid (HU2.out.below hb)
    clear h9 ho hb HC HK2 HU2
    go_wp2_with fail
    have HUd : Hid (US w3.drew _ ns) := HU3
    have HKd : Hid (BS w3.drew _ k) := HK3
    have HOd : Hid (BS w3.drew v3 (k ++ t)) := Lib.hid HO3.out.bs
    have HBd : Hid (Below w.heap.size w w3.drew) := Lib.hid HB3.out.drew
    have h9d : w3.drew.cell? ⟨gb, go + k.size, none⟩ = some (.int .u8 9) := h93
    have H9 := Lib.hid h9d
    clear h93 h9d
    have C1 := Lib.hid (fun w h => key_any kind k0 k1 (.slice na ns.length nc) ns w h (by omega))
    have C2 := Lib.hid (fun w h => rkey_any kind k0 k1 (.slice na ns.length nc) ns w h (by omega))
    obtain ⟨ks, hks⟩ : ∃ ks, ks = keyS kind ns := ⟨_, rfl⟩
    rw [← hks] at C1 C2
    obtain ⟨kt, hkt⟩ : ∃ kt, k ++ t = kt := ⟨_, rfl⟩
    rw [hkt] at HOd
    clear hks HO3
    have q1 : (ks.toList == ks.toList) = true := by simp
    have q2 : (kt.toList == kt.toList) = true := by simp
    have hcat : ¬ 9223372036854775807 < k.size + t.size := by omega
    go_region_with (first
      | (go_at_call 15; refine (C1.out _ HUd.out).mono ?_; rintro e w4 ⟨v4, rfl, ho, hb⟩
         have HB4 := Lib.hid (HBd.out.trans (hb.mono HBd.out.size)); have HO4 := Lib.hid ho.bs; have HU4 := Lib.hid (HUd.out.below hb); have HK4 := Lib.hid (HKd.out.below hb); have HV4 := Lib.hid (HOd.out.below hb)
         have h94 : w4.cell? ⟨gb, go + k.size, none⟩ = some (.int .u8 9) := by
           rw [hb.cell (p := ⟨gb, go + k.size, none⟩) (World.block_lt_of_cell? w3.drew ⟨gb, go + k.size, none⟩ H9.out)]; exact H9.out
         have conv4 := HO4.out.string (P := Try.prog) 23 5 9 uBytes uByte uStr
         clear ho hb)
      | (go_at_call 16; refine (C2.out _ HU4.out).mono ?_; rintro e w5 ⟨rfl, hb⟩
         have HB5 := Lib.hid (HB4.out.trans (hb.mono HB4.out.size)); have HO5 := Lib.hid (HO4.out.below hb); have HK5 := Lib.hid (HK4.out.below hb); have HV5 := Lib.hid (HV4.out.below hb)
         have h95 : w5.cell? ⟨gb, go + k.size, none⟩ = some (.int .u8 9) := by
           rw [hb.cell (p := ⟨gb, go + k.size, none⟩) (World.block_lt_of_cell? w4 ⟨gb, go + k.size, none⟩ h94)]; exact h94
         have conv5 := HO5.out.string (P := Try.prog) 23 5 9 uBytes uByte uStr
         have conv5k := HK5.out.string (P := Try.prog) 23 5 9 uBytes uByte uStr
         have conv5v := HV5.out.string (P := Try.prog) 23 5 9 uBytes uByte uStr
         clear hb)
      | (go_at_call 17; refine (goes16 _).mono ?_; rintro e w6 ⟨rfl, hb⟩; have HB6 := Lib.hid (HB5.out.trans (hb.mono HB5.out.size)); clear hb))
    all_goals
      go_wp2
      go_ret
      exact ⟨rfl, HB6.out⟩
  · have arms : 20 < ns.length ∨ (ns.length ≤ 20 ∧ 200 < k.size) ∨ (ns.length ≤ 20 ∧ k.size ≤ 200 ∧ 200 < t.size) := by omega
    rcases arms with h | ⟨h, h'⟩ | ⟨h, h', h''⟩
    · have i1 : decide ((20 : Int) < (ns.length : Int)) = true := decide_eq_true (by omega)
      clear hU' hK' hg
      go_enter Try.func3, Try.ntmps3
      go_wp2
      go_ret
      exact ⟨rfl, Below.refl _ _⟩
    · have i1 : decide ((20 : Int) < (ns.length : Int)) = false := decide_eq_false (by omega)
      have i2 : decide ((200 : Int) < (k.size : Int)) = true := decide_eq_true (by omega)
      clear hU' hK' hg
      go_enter Try.func3, Try.ntmps3
      go_wp2
      go_ret
      exact ⟨rfl, Below.refl _ _⟩
    · have i1 : decide ((20 : Int) < (ns.length : Int)) = false := decide_eq_false (by omega)
      have i2 : decide ((200 : Int) < (k.size : Int)) = false := decide_eq_false (by omega)
      have i3 : decide ((200 : Int) < (t.size : Int)) = true := decide_eq_true (by omega)
      clear hU' hK' hg
      go_enter Try.func3, Try.ntmps3
      go_wp2
      go_ret
      exact ⟨rfl, Below.refl _ _⟩
end Go.Proofs.Ytiadoimdohnebaa
