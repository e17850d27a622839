/- The walk of KvPlays. -/
import Derived.Test.YtiadoimdohnebaaOne16
namespace Go.Proofs.Ytiadoimdohnebaa
open Go.RowKit
set_option maxRecDepth 100000
set_option maxHeartbeats 4000000
set_option linter.unusedVariables false
set_option linter.unusedSimpArgs false
theorem srt_nil : AL.srt [] = [] := by unfold AL.srt; simp
theorem range_all (now : AL) : AL.range ByteArray.empty ByteArray.empty now = AL.srt now := by
  unfold AL.range
  refine List.filter_eq_self.2 (fun q _ => ?_)
  unfold selB
  have h1 : slt q.1 ByteArray.empty = false := by
    show Op.bytesLess q.1.toList ByteArray.empty.toList = false
    rw [toList_data ByteArray.empty]
    show Op.bytesLess q.1.toList [] = false
    cases q.1.toList <;> rfl
  rw [h1]; rfl
theorem small_of2 {l : List A16} (h : grB l = false) (h2 : l.length ≤ 200) {i : Nat} {x : A16} (hx : l[i]? = some x) : x.key.size ≤ 400 ∧ x.val.size ≤ 1200 := by
  unfold grB at h
  rw [Bool.or_eq_false_iff] at h
  have h1 := List.any_eq_false.1 h.1 x (by rw [List.mem_iff_getElem?]; exact ⟨i, by rw [List.getElem?_take, if_pos (by have := (List.getElem?_eq_some_iff.1 hx).1; omega)]; exact hx⟩)
  unfold big16 at h1
  simp at h1
  omega
theorem kplays_any (room : Int) (lv : Value) (l : List A16) (w : World) (hL : AS w lv l) :
    Calls Try.prog 12 #[.int .i64 room, lv] w fun e w' => e = .returned (.bool true) ∧ Below w.heap.size w w' := by
  have GL := Lib.hid (great_any _ l _ hL)
  obtain ⟨la, lc, rfl⟩ : ∃ a c, lv = .slice a l.length c := by obtain ⟨a, c, h, _⟩ := hL; exact ⟨a, c, h⟩
  have HL := Lib.hid hL
  have HG := Lib.hid goes16
  clear hL
  cases hg : grB l with
  | true =>
    have G1 := Lib.hid hg
    clear hg
    go_enter Try.func12, Try.ntmps12
    go_wp2_with fail
    refine GL.out.mono ?_
    rintro e w1 ⟨rfl, rfl⟩
    rw [G1.out]
    go_wp2
    go_ret
    exact ⟨rfl, Below.refl _ _⟩
  | false =>
    have G1 := Lib.hid hg
    have hll : l.length ≤ 200 := by
      unfold grB at hg
      rw [Bool.or_eq_false_iff, decide_eq_false_iff_not] at hg
      omega
    clear hg
    go_enter Try.func12, Try.ntmps12
    go_wp2_with fail
    refine GL.out.mono ?_
    rintro e w1 ⟨rfl, hw⟩
    obtain rfl := hw
    rw [G1.out]
    go_wp2_with fail
    refine (new_any room _).mono ?_
    rintro e w2 ⟨p, b1, b2, rfl, hp, hb1, hb2, hm, hb⟩
    have hal : Below w2.heap.size w2 (w2.alloc (.cells #[.int .i64 room, .slice none 0 0, .slice none 0 0] 77)) := (Below.refl _ _).alloc (Nat.le_refl _) _
    have HK2 := Lib.hid (show KS w.heap.size (w2.alloc (.cells #[.int .i64 room, .slice none 0 0, .slice none 0 0] 77)) p w2.heap.size room [] [] from
      ⟨b1, b2, .slice none 0 0, .slice none 0 0, ⟨room, [], []⟩, hm.below hal, hp, hb1, ⟨blk_new w2 _, World.ownsRow_nil _ _ _ _, World.ownsRow_nil _ _ _ _, hb.size⟩, ⟨rfl, srt_nil.symm, srt_nil.symm⟩⟩)
    have HB2 := Lib.hid (hb.trans (hal.mono hb.size))
    clear hm hb hp hb1 hb2 hal GL
    unfold pV
    go_wp2_with fail
    go_loopw [7] (fun s wr => ∃ j : Nat, j ≤ l.length ∧ s = .int .i64 j ∧ Hid (∃ now was, KS w.heap.size wr p w2.heap.size room now was ∧ St j now ∧ St j was) ∧ Hid (Below w.heap.size w wr)) (fun s _ => l.length - (intOf s).toNat)
    case atStart => exact ⟨0, by omega, rfl, Lib.hid ⟨[], [], HK2.out, St.nil, St.nil⟩, HB2⟩
    case round =>
      clear HK2 HB2
      obtain ⟨j, hj, rfl, HH, HB⟩ := hrel
      by_cases hlt : j < l.length
      · obtain ⟨x, hx⟩ : ∃ x, l[j]? = some x := ⟨_, List.getElem?_eq_getElem hlt⟩
        obtain ⟨lb, lo, hla, hok, c0, c1, c2, c3⟩ := (HL.out.below HB.out).at_ hx
        subst hla
        have hsm := small_of2 G1.out hll hx
        obtain ⟨now, was, hK, hN, hW⟩ := HH.out
        have hs := one_any w.heap.size p w2.heap.size room now was j x wr hK hok hN hW (by omega) hsm.1 hsm.2
        simp only [mV, pV, a16] at hs
        have HS := Lib.hid hs
        have i3 : decide ((j : Int) < (l.length : Int)) = true := decide_eq_true (by omega)
        obtain ⟨d, k, v, n⟩ := x
        simp only at c0 c1 c2 c3
        clear hs hK hN hW hx hsm hok HH
        go_wp2_with fail
        refine HS.out.mono ?_
        rintro e w3 ⟨rfl, now, was, hK3, hN3, hW3, hb3⟩
        obtain ⟨b1, b2, vL, vZ, M, hMem, hp, hb1, hMap, hRel⟩ := hK3
        have HM3 := Lib.hid hMem
        have HX3 := Lib.hid hMap
        have HR := Lib.hid hRel
        have HN3 := Lib.hid hN3
        have HW3 := Lib.hid hW3
        have HB3 := Lib.hid (HB.out.trans hb3)
        have hBw : w.heap.size ≤ w3.heap.size := HB3.out.size
        clear hMem hMap hRel hN3 hW3 hb3 HS
        go_wp2_with fail
        refine (range_any p room b1 b2 now was (.slice none 0 0) (.slice none 0 0) ByteArray.empty ByteArray.empty w3 HM3.out (BS.nil _) (BS.nil _) (HN3.out.sml (by omega)) HN3.out.nd).mono ?_
        rintro e w4 ⟨xv, rfl, hps, hb⟩
        have hpr := hps.pr
        rw [range_all] at hpr
        have HP4 := Lib.hid hpr
        have HM4 := Lib.hid (HM3.out.below hb)
        have HX4 := Lib.hid (HX3.out.below hb)
        have HB4 := Lib.hid (HB3.out.trans (hb.mono hBw))
        have hqr := QR.ofRow HX4.out.rowL
        rw [HR.out.L] at hqr
        have HQ4 := Lib.hid hqr
        have hc1 := HX4.out.c1
        have hrl : (AL.srt now).length ≤ 1000000 := by rw [srt_len]; have := HN3.out.len; omega
        obtain ⟨S, hS⟩ : ∃ S, S = AL.srt now := ⟨_, rfl⟩
        have hpr' := hpr
        rw [← hS] at HP4 HQ4 hrl
        obtain ⟨ua, uc, rfl, _⟩ := hpr'
        have hsz : (AL.srt now).length = S.length := by rw [hS]
        rw [hsz] at HP4 ⊢
        clear hps hpr hqr hb hS hsz
        go_wp2_with fail
        refine (pairs_any _ _ S w4 HP4.out HQ4.out hrl).mono ?_
        rintro e w5 ⟨rfl, hb⟩
        have HH5 := Lib.hid (show ∃ now was, KS w.heap.size w5 p w2.heap.size room now was ∧ St (j + 1) now ∧ St (j + 1) was from ⟨now, was, ⟨b1, b2, vL, vZ, M, HM4.out.below hb, hp, hb1, HX4.out.below hb, HR.out⟩, HN3.out, HW3.out⟩)
        have HB5 := Lib.hid (HB4.out.trans (hb.mono HB4.out.size))
        clear hb
        go_wp2_with fail
        go_roundw
        case rel => exact ⟨j + 1, by omega, by go_num, HH5, HB5⟩
        case measure => simp [intOf]; omega
      · obtain rfl : j = l.length := by omega
        have i3 : decide ((l.length : Int) < (l.length : Int)) = false := decide_eq_false (by omega)
        go_wp2_with fail
        refine (HG.out _).mono ?_
        rintro e wf ⟨rfl, hb⟩
        have HBF := Lib.hid (HB.out.trans (hb.mono HB.out.size))
        clear hb
        go_wp2
        go_ret
        exact ⟨rfl, HBF.out⟩
end Go.Proofs.Ytiadoimdohnebaa
