/- The walk of KvNil. -/
import Derived.Test.YtiadoimdohnebaaGoes16
namespace Go.Proofs.Ytiadoimdohnebaa
open Go.RowKit
set_option maxRecDepth 100000
theorem hvxy (v : ByteArray) (h : AL.get ⟨#[97]⟩ [((⟨#[97]⟩ : ByteArray), (⟨#[120, 121]⟩ : ByteArray))] = some v) : v.size ≤ 9223372036854775807 := by
  have e : AL.get ⟨#[97]⟩ [((⟨#[97]⟩ : ByteArray), (⟨#[120, 121]⟩ : ByteArray))] = some ⟨#[120, 121]⟩ := by decide
  rw [e] at h; cases h; decide
theorem nil_any (kv vv : Value) (w : World) :
    Calls Try.prog 4 #[kv, vv] w fun e w' => e = .returned (.bool true) ∧ Below w.heap.size w w' := by
  have hkc := kc
  go_enter Try.func4, Try.ntmps4
  go_wp2_with (first
    | (go_at_call 18; refine (get_nil _ _).mono ?_; rintro e w' ⟨rfl, rfl⟩)
    | (go_at_call 19; refine (delete_nil _ _).mono ?_; rintro e w' ⟨rfl, rfl⟩)
    | (go_at_call 20; refine (range_nil _ _ _).mono ?_; rintro e w' ⟨rfl, rfl⟩)
    | (go_at_call 21; refine (abort_nil _).mono ?_; rintro e w' ⟨rfl, rfl⟩)
    | (go_at_call 22; refine (put_nil _ _ _).mono ?_; rintro e w' ⟨rfl, rfl⟩)
    | (go_at_call 23; refine (commit_nil _).mono ?_; rintro e w' ⟨rfl, rfl⟩)
    | (go_at_call 24; fail))
  refine (new_any (-1) _).mono ?_
  rintro e w1 ⟨p, b1, b2, rfl, hp, hb1, hb2, hM, hB⟩
  have HM1 := Lib.hid hM
  have HB1 := Lib.hid hB
  have HP := Lib.hid hp
  have HP1 := Lib.hid hb1
  have HP2 := Lib.hid hb2
  clear hM hB hp hb1 hb2
  unfold pV
  go_wp2_with fail
  refine (put_any p (-1) b1 b2 [] [] _ _ ⟨#[97]⟩ ⟨#[120, 121]⟩ _ ((HM1.out.alloc _).alloc _) (BS.lit (by simp) _ ⟨#[97]⟩ _ rfl rfl (by decide)) ((BS.lit rfl _ ⟨#[120, 121]⟩ _ rfl rfl (by decide)).alloc _) (by decide)).mono ?_
  rintro e w2 ⟨rfl, hM, hK⟩
  rw [show putA (-1) [] ⟨#[97]⟩ ⟨#[120, 121]⟩ = [(⟨#[97]⟩, ⟨#[120, 121]⟩)] by decide] at hM
  have hlt := HM1.out.now.lt
  have hblk := hK.blk (blk_alloc (blk_new w1 (.cells #[.int .u8 120, .int .u8 121] 5 (2, 3))) _) (show ¬ w1.heap.size = b1 by omega)
  have hcx := blk_cell hblk 0
  have hfx : w2.frozen? ⟨w1.heap.size, 0, none⟩ = false := by simp [World.frozen?, hblk]
  simp at hcx
  have hz2 : w1.heap.size < w2.heap.size := blk_lt hblk
  have HM2 := Lib.hid hM
  have HB2 := Lib.hid (((HB1.out.alloc HB1.out.size _).alloc (by have := HB1.out.size; simp; omega) _).trans (hK.below (by have := HB1.out.size; simp; omega) (fun i hi => by have := HP1.out; omega)))
  clear hM hK hblk
  go_wp2_with fail
  have hp1 := blk_lt HM1.out.blk
  have hbb1 := HM1.out.now.lt
  have hbb2 := HM1.out.was.lt
  have hks : Keep (fun i => i = w1.heap.size) w2 (w2.setCell ⟨w1.heap.size, 0, none⟩ (.int .u8 122)) := Keep.setCell (F := fun i => i = w1.heap.size) (Keep.refl _ _) (p := ⟨w1.heap.size, 0, none⟩) (.inl rfl) _
  have HM3 := Lib.hid (HM2.out.keep hks (by omega) (by omega) (by omega))
  have HB3 := Lib.hid (HB2.out.trans (hks.below HB2.out.size (fun i hi => by have := HB1.out.size; omega)))
  obtain ⟨w3, hw3⟩ : ∃ w3, w3 = w2.setCell ⟨w1.heap.size, 0, none⟩ (.int .u8 122) := ⟨_, rfl⟩
  have hs3 : w2.heap.size = w3.heap.size := by rw [hw3]; simp [World.setCell]
  rw [← hw3] at HM3 HB3 ⊢
  rw [hs3]
  clear hw3 hs3 hcx hfx hz2 hks
  refine (get_any p (-1) b1 b2 _ [] _ ⟨#[97]⟩ _ (HM3.out.alloc _) (BS.lit rfl _ ⟨#[97]⟩ _ rfl rfl (by decide)) hvxy).mono ?_
  rintro e w4 ⟨v4, rfl, hmine, hb⟩
  rw [show AL.get ⟨#[97]⟩ [((⟨#[97]⟩ : ByteArray), (⟨#[120, 121]⟩ : ByteArray))] = some ⟨#[120, 121]⟩ by decide] at hmine ⊢
  have HM4 := Lib.hid ((HM3.out.alloc _).below hb)
  have HB4 := Lib.hid ((HB3.out.alloc HB3.out.size _).trans (hb.mono (by have := HB3.out.size; simp; omega)))
  obtain ⟨hbs, hor⟩ := hmine
  obtain ⟨a4, c4, hv4, hc4, hc5⟩ := hbs.len2 (n := 2) rfl
  obtain ⟨g, c, hv4', hge, hfr⟩ : ∃ g c, v4 = .slice (some ⟨g, 0, none⟩) 2 c ∧ (w3.alloc (.cells #[.int .u8 97] 5 (1, 2))).heap.size ≤ g ∧ ∀ i, i < 2 → w4.frozen? ⟨g, i, none⟩ = false := by
    rcases hor with h | ⟨g, c, h1, h2, h3⟩
    · rw [hv4] at h; simp at h
    · exact ⟨g, c, h1, h2, h3⟩
  subst hv4'
  obtain ⟨b', o', hbo, hcell⟩ := hbs.at_ (i := 1) (by decide)
  simp only [Option.some.injEq, Addr.mk.injEq] at hbo
  obtain ⟨rfl, rfl, _⟩ := hbo
  have hcx := hcell 1 (by decide)
  have hfx := hfr 1 (by decide)
  simp only [Nat.zero_add] at hcx
  have hge1 : w3.heap.size < g := by simp at hge; omega
  clear hv4 hbs hor hcell hfr hge hb
  go_wp2_with fail
  have hp3 := blk_lt HM3.out.blk
  have hb31 := HM3.out.now.lt
  have hb32 := HM3.out.was.lt
  have hks : Keep (fun i => i = g) w4 (w4.setCell ⟨g, 1, none⟩ (.int .u8 122)) := Keep.setCell (F := fun i => i = g) (Keep.refl _ _) (p := ⟨g, 1, none⟩) (.inl rfl) _
  have HM5 := Lib.hid (HM4.out.keep hks (by omega) (by omega) (by omega))
  have HB5 := Lib.hid (HB4.out.trans (hks.below HB4.out.size (fun i hi => by have := HB3.out.size; omega)))
  obtain ⟨w5, hw5⟩ : ∃ w5, w5 = w4.setCell ⟨g, 1, none⟩ (.int .u8 122) := ⟨_, rfl⟩
  have hs5 : w4.heap.size = w5.heap.size := by rw [hw5]; simp [World.setCell]
  rw [← hw5] at HM5 HB5 ⊢
  rw [hs5]
  clear hw5 hs5 hcx hfx hks
  refine (get_any p (-1) b1 b2 _ [] _ ⟨#[97]⟩ _ (HM5.out.alloc _) (BS.lit rfl _ ⟨#[97]⟩ _ rfl rfl (by decide)) hvxy).mono ?_
  rintro e w6 ⟨v6, rfl, hmine, hb⟩
  rw [show AL.get ⟨#[97]⟩ [((⟨#[97]⟩ : ByteArray), (⟨#[120, 121]⟩ : ByteArray))] = some ⟨#[120, 121]⟩ by decide] at hmine ⊢
  have HB6 := Lib.hid ((HB5.out.alloc HB5.out.size _).trans (hb.mono (by have := HB5.out.size; simp; omega)))
  have conv6 := hmine.1.string (P := Try.prog) 23 5 9 uBytes uByte uStr
  simp only [Option.getD_some] at conv6
  clear hmine hb
  go_wp2_with (go_at_call 17; refine (goes16 _).mono ?_; rintro e w7 ⟨rfl, hb⟩; have HB7 := Lib.hid (HB6.out.trans (hb.mono HB6.out.size)); clear hb)
  go_ret
  exact ⟨rfl, HB7.out⟩
end Go.Proofs.Ytiadoimdohnebaa
