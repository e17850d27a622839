/- The walks of kv.Scan, its closure, slices.IndexFunc with it. -/
import Derived.Test.YtidppalhjknlfaaGreatDoorQMScan
namespace Go.Proofs.YtidppalhjknlfaaGreatDoor
open Go.RowKit
set_option maxRecDepth 100000
set_option linter.unusedVariables false
set_option linter.unusedSimpArgs false
set_option maxHeartbeats 400000
theorem closure_any (q : Nat) (kv vv sv : Value) (k u s : ByteArray) (w : World) (hq : w.cell? ⟨q, 0, none⟩ = some sv) (hK : BS w kv k) (hV : BS w vv u) (hS : BS w sv s) :
    Calls Tryz.prog 77 #[.agg #[kv, vv], .pointer (some ⟨q, 0, none⟩)] w fun e w' => e = .returned (.bool (!pre s k)) ∧ Below w.heap.size w w' := by
  obtain ⟨a, c, rfl⟩ := hK.len
  obtain ⟨a', c', rfl⟩ := hV.len
  have hcon := Lib.hid fun w' (hb : Below w.heap.size w w') => hasPrefix_any (.slice a k.size c) sv k s w' (hK.below hb) (hS.below hb)
  have hq2 := fun o => ((Keep.refl (fun _ => False) w).alloc o).cell hq (fun h => h)
  clear hK hV hS
  go_enter Tryz.func77, Tryz.ntmps77
  go_wp2_with fail
  refine (hcon.out _ ((Below.refl _ _).alloc (Nat.le_refl _) _)).mono ?_
  rintro e w1 ⟨rfl, rfl⟩
  go_wp2
  go_ret
  exact ⟨rfl, (Below.refl _ _).alloc (Nat.le_refl _) _⟩
def idxOf (s : ByteArray) (l : AL) : Int := if (l.takeWhile fun p => pre s p.1).length < l.length then (l.takeWhile fun p => pre s p.1).length else -1
theorem takeWhile_take {α : Type} (f : α → Bool) : ∀ (l : List α) (j : Nat), (∀ i, i < j → ∀ p, l[i]? = some p → f p = true) → j ≤ l.length → l.takeWhile f = l.take j ++ (l.drop j).takeWhile f
  | l, 0, _, _ => by simp
  | [], j + 1, _, h => by simp at h
  | a :: l, j + 1, h, hj => by
    have ha := h 0 (by omega) a rfl
    rw [List.takeWhile_cons_of_pos ha, List.take_succ_cons, List.drop_succ_cons, List.cons_append, takeWhile_take f l j (fun i hi p hp => h (i + 1) (by omega) p hp) (by simp at hj; omega)]
theorem indexFunc_any (q : Nat) (sv v : Value) (s : ByteArray) (l : AL) (w : World) (hq : w.cell? ⟨q, 0, none⟩ = some sv) (hS : BS w sv s) (hv : PR w v l) (hl : l.length ≤ 1000000) :
    Calls Tryz.prog 76 #[v, .func (Fn.func 77) #[] #[.pointer (some ⟨q, 0, none⟩)]] w fun e w' => e = .returned (.int .i64 (idxOf s l)) ∧ Below w.heap.size w w' := by
  have hv' := hv
  obtain ⟨a, cap, rfl, h1, h2, h3⟩ := hv
  have HV := Lib.hid hv'
  have HS := Lib.hid hS
  have HQ := Lib.hid hq
  obtain ⟨N, hN⟩ : ∃ N, N = idxOf s l := ⟨_, rfl⟩
  rw [← hN]
  clear hv' hS hq h3
  go_enter Tryz.func76, Tryz.ntmps76
  go_wp2_with fail
  go_loopw [8] (fun i wr => ∃ j : Nat, j ≤ l.length ∧ i = .int .i64 j ∧ Hid (∀ i, i < j → ∀ p, l[i]? = some p → pre s p.1 = true) ∧ Hid (Below w.heap.size w wr)) (fun i _ => l.length - (intOf i).toNat)
  case atStart => exact ⟨0, by omega, rfl, Lib.hid (by simp), Lib.hid (Below.refl _ _)⟩
  case round =>
    obtain ⟨j, hj, rfl, HA, HB⟩ := hrel
    by_cases hlt : j < l.length
    · obtain ⟨p, hp⟩ : ∃ p, l[j]? = some p := ⟨_, List.getElem?_eq_getElem hlt⟩
      obtain ⟨a', cap', he, _, _, h3⟩ := HV.out.below HB.out
      injection he with he _ hcap
      subst he; subst hcap
      rcases h3 with h3 | ⟨g, rfl, h3⟩
      · rw [h3] at hlt; simp at hlt
      · obtain ⟨kv, vv, c1, c2, e1, e2⟩ := h3 j p hp
        have hcon := Lib.hid (closure_any q kv vv sv p.1 p.2 s wr ((Keep.ofBelow HB.out (fun _ => False)).cell HQ.out (fun h => h)) e1 e2 (HS.out.below HB.out))
        rw [Nat.mul_comm] at c1 c2
        clear h3 e1 e2 HV
        go_wp2_with fail
        refine hcon.out.mono ?_
        rintro e w1 ⟨rfl, hb⟩
        have HB1 := Lib.hid (HB.out.trans (hb.mono HB.out.size))
        clear hb hcon
        cases hpre : pre s p.1 with
        | true =>
          have HA' := Lib.hid (show ∀ i, i < j + 1 → ∀ p, l[i]? = some p → pre s p.1 = true from by
            intro i hi q' hq'
            by_cases he : i = j
            · subst he; rw [hp] at hq'; cases hq'; exact hpre
            · exact HA.out i (by omega) q' hq')
          clear hpre hp
          go_wp2
          go_roundw
          case rel =>
            exact ⟨j + 1, by omega, by go_num, HA', HB1⟩
          case measure => simp [intOf]; omega
        | false =>
          have hi : idxOf s l = j := by
            have := takeWhile_take (fun p => pre s p.1) l j HA.out (by omega)
            have hd : l.drop j = p :: l.drop (j + 1) := by
              rw [List.drop_eq_getElem_cons hlt]
              congr 1
              rw [List.getElem?_eq_getElem hlt] at hp
              exact Option.some.inj hp
            rw [hd, List.takeWhile_cons_of_neg (by rw [hpre]; decide), List.append_nil] at this
            unfold idxOf
            rw [this, List.length_take, Nat.min_eq_left (by omega), if_pos hlt]
          rw [hi] at hN
          clear hpre hp hi
          go_wp2
          go_ret
          exact ⟨by subst hN; rfl, HB1.out⟩
    · have hje : j = l.length := by omega
      subst hje
      go_wp2
      go_ret
      refine ⟨?_, HB.out⟩
      have := takeWhile_take (fun p => pre s p.1) l l.length HA.out (Nat.le_refl _)
      rw [List.take_length, List.drop_length, List.takeWhile_nil, List.append_nil] at this
      unfold idxOf at hN
      rw [this, if_neg (by omega)] at hN
      subst hN
      rfl
/-- the first n pairs, cut -/
theorem PR.take {w : World} {a : Option Addr} {len cap : Nat} {l : AL} (h : PR w (.slice a len cap) l) (n : Nat) (hn : n ≤ l.length) : PR w (.slice a n n) (l.take n) := by
  obtain ⟨a', cap', he, h1, h2, h3⟩ := h
  injection he with ha _ hc
  subst ha; subst hc
  have hl : (l.take n).length = n := by rw [List.length_take]; omega
  refine ⟨a, n, by rw [hl], by omega, by omega, ?_⟩
  rcases h3 with h3 | ⟨g, rfl, h3⟩
  · left; rw [h3]; simp
  · refine .inr ⟨g, rfl, fun i p hp => h3 i p ?_⟩
    rw [List.getElem?_take] at hp
    split at hp
    · exact hp
    · cases hp
theorem range_len (f t : ByteArray) (l : AL) : (AL.range f t l).length ≤ l.length := by
  unfold AL.range
  refine Nat.le_trans (List.length_filter_le _ _) ?_
  rw [(srt_perm l).length_eq]; exact Nat.le_refl _
theorem takeWhile_len {α : Type} (f : α → Bool) (l : List α) : l.takeWhile f = l.take (l.takeWhile f).length := by
  induction l with
  | nil => rfl
  | cons a l ih =>
    cases hf : f a
    · rw [List.takeWhile_cons_of_neg (by rw [hf]; decide)]; rfl
    · rw [List.takeWhile_cons_of_pos hf, List.length_cons, List.take_succ_cons]; exact congrArg (a :: ·) ih
theorem scan_any (p : Nat) (room : Int) (b1 b2 : Nat) (now was : AL) (sv : Value) (s : ByteArray) (w : World) (hM : MemIs w p room b1 b2 now was) (hS : BS w sv s) (hSm : Small now) (hN : AL.ND now) :
    Calls Tryz.prog 57 #[sV p, sv] w fun e w' => ∃ v, e = .returned (.tuple #[v, .int .i64 0]) ∧ PR w' v (AL.scan s now) ∧ Below w.heap.size w w' := by
  obtain ⟨a0, c0, rfl⟩ := hS.len
  have hcon := Lib.hid fun o => range_any p room b1 b2 now was (.slice a0 s.size c0) (.slice none 0 0) s ByteArray.empty _ (hM.alloc o) (hS.alloc o) (BS.nil _) hSm hN
  have HS := Lib.hid hS
  have hL := hSm.1
  have HQ := Lib.hid (scan_eq hN s)
  have HRL := Lib.hid (range_len s ByteArray.empty now)
  unfold sV
  unfold pV at *
  clear hM hS hSm hN
  go_enter Tryz.func57, Tryz.ntmps57
  go_wp2_with fail
  refine (hcon.out _).mono ?_
  rintro e w1 ⟨v, rfl, hps, hb⟩
  have HB1 := Lib.hid (((Below.refl w.heap.size w).alloc (Nat.le_refl _) (.cells #[.slice a0 s.size c0] 76)).trans (hb.mono (by simp)))
  have hq : w1.cell? ⟨w.heap.size, 0, none⟩ = some (.slice a0 s.size c0) := by
    rw [hb.cell (p := ⟨w.heap.size, 0, none⟩) (by simp), blk_cell (blk_new _ _)]; rfl
  obtain ⟨l, hl⟩ : ∃ l, l = AL.range s ByteArray.empty now := ⟨_, rfl⟩
  rw [← hl] at hps HQ HRL
  have HP := Lib.hid hps.pr
  have hll : l.length ≤ 1000000 := Nat.le_trans HRL.out hL
  have hcon2 := Lib.hid (indexFunc_any w.heap.size (.slice a0 s.size c0) v s l w1 hq (HS.out.below (HB1.out.mono (Nat.le_refl _))) HP.out hll)
  clear hps hb hcon hq hl
  go_wp2_with fail
  refine (hcon2.out).mono ?_
  rintro e w2 ⟨rfl, hb⟩
  have HB2 := Lib.hid (HB1.out.trans (hb.mono HB1.out.size))
  have HP2 := Lib.hid (HP.out.below hb)
  clear hb hcon2 HP
  obtain ⟨a, cap, rfl, hc1, hc2, _⟩ := HP2.out
  have htl : (l.takeWhile fun p => pre s p.1).length ≤ l.length := by rw [takeWhile_len]; simp; omega
  unfold idxOf
  unfold maxLen at hc2
  have htk : l.take (l.takeWhile fun p => pre s p.1).length = AL.scan s now := by rw [← takeWhile_len, HQ.out]
  generalize (l.takeWhile fun p => pre s p.1).length = n at htl htk ⊢
  have HT := Lib.hid (HP2.out.take n htl)
  rw [htk] at HT
  clear htk
  clear HQ HP2 HRL
  by_cases hlt : n < l.length
  · rw [if_pos hlt]
    have i1 : decide ((n : Int) < 0) = false := decide_eq_false (by omega)
    go_wp2
    go_ret2
    exact ⟨_, rfl, HT.out, HB2.out⟩
  · rw [if_neg hlt]
    obtain rfl : n = l.length := by omega
    go_wp2
    go_ret2
    exact ⟨_, rfl, HT.out, HB2.out⟩
end Go.Proofs.YtidppalhjknlfaaGreatDoor
