/- cycle.Open. -/
import Derived.Test.YtidppalhjknlfaaGreatDoorQCy7
import Derived.Deep.DeepCutAuto
namespace Go.Proofs.YtidppalhjknlfaaGreatDoor
open Go.RowKit
set_option maxRecDepth 100000
set_option maxHeartbeats 2000000
set_option linter.unusedVariables false
set_option linter.unusedSimpArgs false
def opnE (ps : List Pl) (ts : List Tn) (t s i d : Int) : Int :=
  if t = 0 ∨ shiftB s = false ∨ isDate d = false then 1 else if (tfind ts t).isSome = true then 5 else if (pfind ps i).isNone = true then 4 else 0
def opnT (ps : List Pl) (ts : List Tn) (t s i d : Int) : List Tn := if opnE ps ts t s i d = 0 then ts ++ [⟨t, s, d, [⟨d, i⟩]⟩] else ts
theorem opn_arg (p : Nat) (t s i d : Int) (w : World) (hT : Tab w) (hE : t = 0 ∨ shiftB s = false ∨ isDate d = false) :
    Calls Tryz.prog 10 #[sV p, .int .u32 t, .int .i64 s, .int .u32 i, .int .i64 d] w fun e w' => e = .returned (.int .i64 1) ∧ Below w.heap.size w w' := by
  have HS := Lib.hid (check_any s w)
  have HD := Lib.hid (cdate_any d w hT)
  unfold sV pV
  clear hT
  by_cases h0 : t = 0
  · subst h0
    clear hE
    go_enter Tryz.func10, Tryz.ntmps10
    go_wp2_with fail
    go_ret
    exact ⟨rfl, Below.refl _ _⟩
  · have i0 : (t == 0) = false := beq_eq_false_iff_ne.2 h0
    cases hs : shiftB s with
    | false =>
      rw [hs] at HS
      clear hE hs
      go_enter Tryz.func10, Tryz.ntmps10
      go_wp2_with (go_at_call 30; refine HS.out.mono ?_; rintro e w1 ⟨rfl, rfl⟩)
      go_ret
      exact ⟨rfl, Below.refl _ _⟩
    | true =>
      have hd : isDate d = false := by
        rcases hE with h | h | h
        · exact absurd h h0
        · rw [hs] at h; cases h
        · exact h
      rw [hs] at HS
      rw [hd] at HD
      clear hE hs hd
      go_enter Tryz.func10, Tryz.ntmps10
      go_wp2_with (first
        | (go_at_call 30; refine HS.out.mono ?_; rintro e w1 ⟨rfl, rfl⟩)
        | (go_at_call 31; refine HD.out.mono ?_; rintro e w2 ⟨rfl, hb⟩; have HB := Lib.hid hb; clear hb))
      go_ret
      exact ⟨rfl, HB.out⟩
theorem copn_any (p b1 b2 m : Nat) (ps : List Pl) (ts : List Tn) (t s i d : Int) (ht : U32 t) (hi : U32 i) (w : World) (h : CB w p b1 b2 ps ts m) (hm1 : m + 2 ≤ 1000000) (hT : Tab w) :
    Calls Tryz.prog 10 #[sV p, .int .u32 t, .int .i64 s, .int .u32 i, .int .i64 d] w fun e w' => e = .returned (.int .i64 (opnE ps ts t s i d)) ∧ CB w' p b1 b2 ps (opnT ps ts t s i d) (m + 2) ∧ Keep (fun i => i = b1) w w' := by
  by_cases hE : t = 0 ∨ shiftB s = false ∨ isDate d = false
  · have e1 : opnE ps ts t s i d = 1 := by unfold opnE; rw [if_pos hE]
    have e2 : opnT ps ts t s i d = ts := by unfold opnT; rw [e1, if_neg (by decide)]
    rw [e1, e2]
    refine (opn_arg p t s i d w hT hE).mono ?_
    rintro e w' ⟨rfl, hb⟩
    exact ⟨rfl, (h.below hb).mono (by omega) hm1, Keep.ofBelow hb _⟩
  · have h0 : t ≠ 0 := fun e => hE (.inl e)
    have hs : shiftB s = true := by cases hh : shiftB s with
      | true => rfl
      | false => exact absurd (.inr (.inl hh)) hE
    have hd : isDate d = true := by cases hh : isDate d with
      | true => rfl
      | false => exact absurd (.inr (.inr hh)) hE
    have e0 : opnE ps ts t s i d = if (tfind ts t).isSome = true then 5 else if (pfind ps i).isNone = true then 4 else 0 := by unfold opnE; rw [if_neg hE]
    have i0 : (t == 0) = false := beq_eq_false_iff_ne.2 h0
    have HCK := Lib.hid (check_any s w)
    have HD := Lib.hid (cdate_any d w hT)
    rw [hs] at HCK
    rw [hd] at HD
    have HH := Lib.hid h
    have HSH := Lib.hid hs
    have hdr := isDate_iff.1 hd
    obtain ⟨E, hEe⟩ : ∃ E, E = opnE ps ts t s i d := ⟨_, rfl⟩
    obtain ⟨S, hS⟩ : ∃ S, S = opnT ps ts t s i d := ⟨_, rfl⟩
    rw [← hEe, ← hS]
    have HEE := Lib.hid hEe
    have HE0 := Lib.hid (show E = _ from hEe.trans e0)
    have HS := Lib.hid hS
    cases hf : tfind ts t with
    | some T =>
      have hE1 : E = 5 := by rw [HE0.out, hf]; rfl
      have hS2 : S = ts := by rw [HS.out]; unfold opnT; rw [show opnE ps ts t s i d = 5 by rw [← HEE.out]; exact hE1, if_neg (by decide)]
      subst hE1
      rw [hS2]
      clear hS2
      have HTN := Lib.hid fun (W : World) (hb : Below w.heap.size w W) => cten_yes p b1 b2 m ps ts t ht W (h.below hb) T hf
      unfold sV pV at *
      clear h hT hE hs hd e0 hEe hS hf
      go_enter Tryz.func10, Tryz.ntmps10
      go_upto_region 3 with (first
        | (go_at_call 30; refine HCK.out.mono ?_; rintro e w1 ⟨rfl, hw1⟩; obtain rfl := hw1.symm)
        | (go_at_call 31; refine HD.out.mono ?_; rintro e w2 ⟨rfl, hb⟩; have HB2 := Lib.hid hb; clear hb))
      go_wp2_with fail
      refine (HTN.out _ HB2.out).mono ?_
      rintro e w3 ⟨rfl, hb⟩
      have HB3 := Lib.hid (HB2.out.trans (hb.mono HB2.out.size))
      clear hb
      go_wp2
      go_ret
      exact ⟨rfl, (HH.out.below HB3.out).mono (by omega) hm1, Keep.ofBelow HB3.out _⟩
    | none =>
      have HTN := Lib.hid fun (W : World) (hb : Below w.heap.size w W) => cten_no p b1 b2 m ps ts t ht W (h.below hb) hf
      cases hg : pfind ps i with
      | none =>
        have hE1 : E = 4 := by rw [HE0.out, hf, hg]; rfl
        have hS2 : S = ts := by rw [HS.out]; unfold opnT; rw [show opnE ps ts t s i d = 4 by rw [← HEE.out]; exact hE1, if_neg (by decide)]
        subst hE1
        rw [hS2]
        clear hS2
        have HP := Lib.hid fun (W : World) (hb : Below w.heap.size w W) => cplan_no p b1 b2 m ps ts i hi W (h.below hb) hg
        unfold sV pV Pl.val Pl.zero at *
        clear h hT hE hs hd e0 hEe hS hf hg
        go_enter Tryz.func10, Tryz.ntmps10
        go_upto_region 3 with (first
          | (go_at_call 30; refine HCK.out.mono ?_; rintro e w1 ⟨rfl, hw1⟩; obtain rfl := hw1.symm)
          | (go_at_call 31; refine HD.out.mono ?_; rintro e w2 ⟨rfl, hb⟩; have HB2 := Lib.hid hb; clear hb))
        go_wp2_with fail
        refine (HTN.out _ HB2.out).mono ?_
        rintro e w3 ⟨rfl, hb⟩
        have HB3 := Lib.hid (HB2.out.trans (hb.mono HB2.out.size))
        clear hb
        go_wp2_with fail
        refine (HP.out _ HB3.out).mono ?_
        rintro e w4 ⟨rfl, hb⟩
        have hb4 := HB3.out.trans (hb.mono HB3.out.size)
        have HB4 := Lib.hid (hb4.alloc hb4.size (.cells #[.int .u32 0, .int .i64 0, .int .i64 0, .int .i64 0, .int .i64 0, .int .i64 0, .slice none 0 0] 35))
        clear hb hb4
        go_wp2
        go_ret
        exact ⟨rfl, (HH.out.below HB4.out).mono (by omega) hm1, Keep.ofBelow HB4.out _⟩
      | some P =>
        have hE1 : E = 0 := by rw [HE0.out, hf, hg]; rfl
        have hS2 : S = ts ++ [⟨t, s, d, [⟨d, i⟩]⟩] := by rw [HS.out]; unfold opnT; rw [show opnE ps ts t s i d = 0 by rw [← HEE.out]; exact hE1, if_pos rfl]
        subst hE1
        rw [hS2]
        clear hS2
        have HP := Lib.hid fun (W : World) (hb : Below w.heap.size w W) => cplan_yes p b1 b2 m ps ts i hi W (h.below hb) P hg
        have hPi := pfind_some hg
        obtain ⟨now, g1, g2, g3, g4⟩ := h
        have hi1 : 1 ≤ i ∧ i ≤ 4294967295 := by
          have h1 := Pl.pos (g2.pok P hPi.1).2
          rw [hPi.2] at h1
          exact ⟨by omega, hi.2⟩
        have HF := Lib.hid hf
        obtain ⟨pe, pa⟩ := put_ok now (tk t) (i8 s ++ i8 d) (by rw [tk_size]; omega) (by rw [tk_size]; omega) (by rw [size_append, i8_size, i8_size]; omega)
        have hpt := fun (X : World) (k v : Value) (h1 : MemIs X p (-1) b1 b2 now []) (h2 : BS X k (tk t)) (h3 : BS X v (i8 s ++ i8 d)) => put_any p (-1) b1 b2 now [] k v _ _ X h1 h2 h3 (by have := g3.len; omega)
        rw [pe, pa] at hpt
        have hst1 : St (m + 1) (AL.put (tk t) (i8 s ++ i8 d) now) := g3.put (by rw [tk_size]; omega) (by rw [size_append, i8_size, i8_size]; omega)
        have hsg := fun (X : World) (h1 : MemIs X p (-1) b1 b2 (AL.put (tk t) (i8 s ++ i8 d) now) []) => cseg_any p b1 b2 (AL.put (tk t) (i8 s ++ i8 d) now) [] t d i ht hdr hi1 X h1 (by have := hst1.len; omega)
        unfold sV at hsg
        unfold sV pV Pl.val at *
        have HPT := Lib.hid hpt
        have HSG := Lib.hid hsg
        have G1 := Lib.hid g1
        have G2 := Lib.hid g2
        have G3 := Lib.hid g3
        have ST1 := Lib.hid hst1
        have na := nil_put p
        have h1 := ht.1
        have h2 := ht.2
        have tw : IntKind.u64.wrap t = t := by rw [IntKind.wrap_u64]; omega
        clear hT hE hs hd e0 hEe hS hf hg g1 g2 g3 hpt hsg hst1 pe pa hPi
        go_enter Tryz.func10, Tryz.ntmps10
        go_upto_region 3 with (first
          | (go_at_call 30; refine HCK.out.mono ?_; rintro e w1 ⟨rfl, hw1⟩; obtain rfl := hw1.symm)
          | (go_at_call 31; refine HD.out.mono ?_; rintro e w2 ⟨rfl, hb⟩; have HB2 := Lib.hid hb; clear hb))
        go_wp2_with fail
        refine (HTN.out _ HB2.out).mono ?_
        rintro e w3 ⟨rfl, hb⟩
        have HB3 := Lib.hid (HB2.out.trans (hb.mono HB2.out.size))
        clear hb
        go_wp2_with fail
        refine (HP.out _ HB3.out).mono ?_
        rintro e w4 ⟨tv, rfl, hgr, hb⟩
        obtain ⟨ta, tc, rfl, _, _, _⟩ := hgr.shape
        have hb4 := HB3.out.trans (hb.mono HB3.out.size)
        obtain ⟨w5, hw5⟩ : ∃ w5, w5 = w4.alloc (.cells #[.int .u32 P.id, .int .i64 P.daily, .int .i64 P.monthly, .int .i64 P.over, .int .i64 P.roll, .int .i64 P.base, .slice ta P.tiers.length tc] 35) := ⟨_, rfl⟩
        have HB5 := Lib.hid (show Below w.heap.size w w5 by rw [hw5]; exact hb4.alloc hb4.size _)
        clear hb hb4 hgr
        go_upto_region 11 with fail
        rw [← hw5]
        clear hw5
        have HM5 := Lib.hid (show MemIs w5.drew p (-1) b1 b2 now [] from (G1.out.below HB5.out).below (Below.refl _ _).drew)
        have U1 := Lib.hid fun e : TypeId => show US (w5.drew.alloc (.cells #[.int .u64 t] e)) (.slice (some ⟨w5.heap.size, 0, none⟩) 1 1) [t] from US.lit1 w5.drew t h1 (by omega) e
        go_cut [16] (fun s16 wx => s16 = .int .i64 0 ∧ Hid (MemIs wx p (-1) b1 b2 (AL.put (tk t) (i8 s ++ i8 d) now) []) ∧ Hid (Keep (fun i => i = b1) w wx))
        case first =>
          refine wp_region_held_drew (S := (fun w' => True)) (by kernel_rfl) ?_ (fun hHeld0 => ?_)
          · dsimp only
          refine takeN (v := ?_) 0 rfl (by kernel_rfl) (by kernel_rfl) (by kernel_rfl) (fun _ _ _ h => h) (by rfl) ?_ hHeld0 ?_
          rotate_left
          · intro w hSw; (try dsimp only at hSw); go_simp; with_reducible rfl
          try simp only [Act.put, List.setIfInBounds_toArray, List.set_cons_zero, List.set_cons_succ]
          refine takeN (v := ?_) 1 rfl (by kernel_rfl) (by kernel_rfl) (by kernel_rfl) (fun _ _ _ h => h) (by rfl) ?_ hHeld0 ?_
          rotate_left
          · intro w hSw; (try dsimp only at hSw); go_simp; with_reducible rfl
          try simp only [Act.put, List.setIfInBounds_toArray, List.set_cons_zero, List.set_cons_succ]
          refine takeN (v := ?_) 2 rfl (by kernel_rfl) (by kernel_rfl) (by kernel_rfl) (fun _ _ _ h => h) (by rfl) ?_ hHeld0 ?_
          rotate_left
          · intro w hSw; (try dsimp only at hSw); go_simp; with_reducible rfl
          try simp only [Act.put, List.setIfInBounds_toArray, List.set_cons_zero, List.set_cons_succ]
          refine takeN (v := ?_) 5 rfl (by kernel_rfl) (by kernel_rfl) (by kernel_rfl) (fun _ _ _ h => h) (by rfl) ?_ hHeld0 ?_
          rotate_left
          · intro w hSw; (try dsimp only at hSw); go_simp; with_reducible rfl
          try simp only [Act.put, List.setIfInBounds_toArray, List.set_cons_zero, List.set_cons_succ]
          refine takeN (v := ?_) 7 rfl (by kernel_rfl) (by kernel_rfl) (by kernel_rfl) (fun _ _ _ h => h) (by rfl) ?_ hHeld0 ?_
          rotate_left
          · intro w hSw; (try dsimp only at hSw); go_simp; with_reducible rfl
          try simp only [Act.put, List.setIfInBounds_toArray, List.set_cons_zero, List.set_cons_succ]
          refine wpAnyH_ready (rs := [3, 9]) (by kernel_rfl) (by simp) ?_
          refine readyN rfl (fun K hK => ?_) ?_
          · -- operation 3
            go_simp
            refine hK.out _ _ ?_ (fun hHeld1 => ?_)
            · dsimp only
            clear hK K hHeld0
            try simp only [Act.put, List.setIfInBounds_toArray, List.set_cons_zero, List.set_cons_succ]
            refine wpAnyH_ready (rs := [4, 9]) (by kernel_rfl) (by simp) ?_
            refine readyN rfl (fun K hK => ?_) ?_
            · -- operation 4
              go_simp
              first
                | (go_at_call 28; refine (key_any 116 (by decide) (by decide) _ [t] _ (U1.out _) (by simp)).mono ?_; rintro e w6 ⟨v6, rfl, ho, hb⟩
                   have HB6 := Lib.hid (show Below w5.drew.heap.size w5.drew w6 from below_and ((Below.refl _ _).alloc (Nat.le_refl _) _) hb)
                   have HO6 := Lib.hid (show BS w6 v6 (tk t) from ho.bs)
                   clear ho hb)
                | (go_at_call 32; refine (int_w (.slice none 0 0) ByteArray.empty s w6 (BS.nil _) (by decide)).mono ?_; rw [show ByteArray.empty ++ i8 s = i8 s by simp]; rintro e w7 ⟨v7, rfl, ho, hb⟩
                   have HO7 := Lib.hid (show BS w7 v7 (i8 s) from ho.bs)
                   have HK7 := Lib.hid (HO6.out.below hb)
                   have HB7 := Lib.hid (below_and HB6.out hb)
                   clear ho hb)
                | (go_at_call 32; refine (int_w v7 (i8 s) d w7 HO7.out (by rw [i8_size]; omega)).mono ?_; rintro e w8 ⟨v8, rfl, ho, hb⟩
                   have HO8 := Lib.hid (show BS w8 v8 (i8 s ++ i8 d) from ho.bs)
                   have HK8 := Lib.hid (HK7.out.below hb)
                   have HB8 := Lib.hid (below_and HB7.out hb)
                   clear ho hb)
                | (go_at_call 104; refine (HPT.out w8 v6 v8 (HM5.out.below HB8.out) HK8.out HO8.out).mono ?_; rintro e w9 ⟨rfl, hm, hk⟩
                   have HM9 := Lib.hid hm
                   have HK9 := Lib.hid (((Keep.ofBelow HB5.out (fun i => i = b1)).drew.trans (Keep.ofBelow HB8.out (fun i => i = b1)) (fun i hi => .inl hi)).trans hk (fun i hi => .inl hi))
                   clear hm hk)
              go_wp2_with fail
              refine hK.out _ _ ?_ (fun hHeld2 => ?_)
              · dsimp only
              clear hK K hHeld1
              try simp only [Act.put, List.setIfInBounds_toArray, List.set_cons_zero, List.set_cons_succ]
              refine wpAnyH_ready (rs := [6, 9]) (by kernel_rfl) (by simp) ?_
              refine readyN rfl (fun K hK => ?_) ?_
              · -- operation 6
                go_simp
                first
                  | (go_at_call 28; refine (key_any 116 (by decide) (by decide) _ [t] _ (U1.out _) (by simp)).mono ?_; rintro e w6 ⟨v6, rfl, ho, hb⟩
                     have HB6 := Lib.hid (show Below w5.drew.heap.size w5.drew w6 from below_and ((Below.refl _ _).alloc (Nat.le_refl _) _) hb)
                     have HO6 := Lib.hid (show BS w6 v6 (tk t) from ho.bs)
                     clear ho hb)
                  | (go_at_call 32; refine (int_w (.slice none 0 0) ByteArray.empty s w6 (BS.nil _) (by decide)).mono ?_; rw [show ByteArray.empty ++ i8 s = i8 s by simp]; rintro e w7 ⟨v7, rfl, ho, hb⟩
                     have HO7 := Lib.hid (show BS w7 v7 (i8 s) from ho.bs)
                     have HK7 := Lib.hid (HO6.out.below hb)
                     have HB7 := Lib.hid (below_and HB6.out hb)
                     clear ho hb)
                  | (go_at_call 32; refine (int_w v7 (i8 s) d w7 HO7.out (by rw [i8_size]; omega)).mono ?_; rintro e w8 ⟨v8, rfl, ho, hb⟩
                     have HO8 := Lib.hid (show BS w8 v8 (i8 s ++ i8 d) from ho.bs)
                     have HK8 := Lib.hid (HK7.out.below hb)
                     have HB8 := Lib.hid (below_and HB7.out hb)
                     clear ho hb)
                  | (go_at_call 104; refine (HPT.out w8 v6 v8 (HM5.out.below HB8.out) HK8.out HO8.out).mono ?_; rintro e w9 ⟨rfl, hm, hk⟩
                     have HM9 := Lib.hid hm
                     have HK9 := Lib.hid (((Keep.ofBelow HB5.out (fun i => i = b1)).drew.trans (Keep.ofBelow HB8.out (fun i => i = b1)) (fun i hi => .inl hi)).trans hk (fun i hi => .inl hi))
                     clear hm hk)
                go_wp2_with fail
                refine hK.out _ _ ?_ (fun hHeld3 => ?_)
                · dsimp only
                clear hK K hHeld2
                try simp only [Act.put, List.setIfInBounds_toArray, List.set_cons_zero, List.set_cons_succ]
                refine wpAnyH_ready (rs := [8, 9]) (by kernel_rfl) (by simp) ?_
                refine readyN rfl (fun K hK => ?_) ?_
                · -- operation 8
                  go_simp
                  first
                    | (go_at_call 28; refine (key_any 116 (by decide) (by decide) _ [t] _ (U1.out _) (by simp)).mono ?_; rintro e w6 ⟨v6, rfl, ho, hb⟩
                       have HB6 := Lib.hid (show Below w5.drew.heap.size w5.drew w6 from below_and ((Below.refl _ _).alloc (Nat.le_refl _) _) hb)
                       have HO6 := Lib.hid (show BS w6 v6 (tk t) from ho.bs)
                       clear ho hb)
                    | (go_at_call 32; refine (int_w (.slice none 0 0) ByteArray.empty s w6 (BS.nil _) (by decide)).mono ?_; rw [show ByteArray.empty ++ i8 s = i8 s by simp]; rintro e w7 ⟨v7, rfl, ho, hb⟩
                       have HO7 := Lib.hid (show BS w7 v7 (i8 s) from ho.bs)
                       have HK7 := Lib.hid (HO6.out.below hb)
                       have HB7 := Lib.hid (below_and HB6.out hb)
                       clear ho hb)
                    | (go_at_call 32; refine (int_w v7 (i8 s) d w7 HO7.out (by rw [i8_size]; omega)).mono ?_; rintro e w8 ⟨v8, rfl, ho, hb⟩
                       have HO8 := Lib.hid (show BS w8 v8 (i8 s ++ i8 d) from ho.bs)
                       have HK8 := Lib.hid (HK7.out.below hb)
                       have HB8 := Lib.hid (below_and HB7.out hb)
                       clear ho hb)
                    | (go_at_call 104; refine (HPT.out w8 v6 v8 (HM5.out.below HB8.out) HK8.out HO8.out).mono ?_; rintro e w9 ⟨rfl, hm, hk⟩
                       have HM9 := Lib.hid hm
                       have HK9 := Lib.hid (((Keep.ofBelow HB5.out (fun i => i = b1)).drew.trans (Keep.ofBelow HB8.out (fun i => i = b1)) (fun i hi => .inl hi)).trans hk (fun i hi => .inl hi))
                       clear hm hk)
                  go_wp2_with fail
                  refine hK.out _ _ ?_ (fun hHeld4 => ?_)
                  · dsimp only
                  clear hK K hHeld3
                  try simp only [Act.put, List.setIfInBounds_toArray, List.set_cons_zero, List.set_cons_succ]
                  refine wpAnyH_ready (rs := [9]) (by kernel_rfl) (by simp) ?_
                  refine readyN rfl (fun K hK => ?_) ?_
                  · -- operation 9
                    go_simp
                    refine hK.out _ _ ?_ (fun hHeld5 => ?_)
                    · dsimp only
                    clear hK K hHeld4
                    try simp only [Act.put, List.setIfInBounds_toArray, List.set_cons_zero, List.set_cons_succ]
                    refine takeN (v := ?_) 10 rfl (by kernel_rfl) (by kernel_rfl) (by kernel_rfl) (fun _ _ _ h => h) (by rfl) ?_ hHeld5 ?_
                    rotate_left
                    · intro w hSw; (try dsimp only at hSw); go_simp; with_reducible rfl
                    try simp only [Act.put, List.setIfInBounds_toArray, List.set_cons_zero, List.set_cons_succ]
                    refine takeN (v := ?_) 11 rfl (by kernel_rfl) (by kernel_rfl) (by kernel_rfl) (fun _ _ _ h => h) (by rfl) ?_ hHeld5 ?_
                    rotate_left
                    · intro w hSw; (try dsimp only at hSw); go_simp; with_reducible rfl
                    try simp only [Act.put, List.setIfInBounds_toArray, List.set_cons_zero, List.set_cons_succ]
                    refine wpAnyH_ready (rs := [12]) (by kernel_rfl) (by simp) ?_
                    refine readyN rfl (fun K hK => ?_) ?_
                    · -- operation 12
                      go_simp
                      go_wp2_with (
                          first
                            | (go_at_call 28; refine (key_any 116 (by decide) (by decide) _ [t] _ (U1.out _) (by simp)).mono ?_; rintro e w6 ⟨v6, rfl, ho, hb⟩
                               have HB6 := Lib.hid (show Below w5.drew.heap.size w5.drew w6 from below_and ((Below.refl _ _).alloc (Nat.le_refl _) _) hb)
                               have HO6 := Lib.hid (show BS w6 v6 (tk t) from ho.bs)
                               clear ho hb)
                            | (go_at_call 32; refine (int_w (.slice none 0 0) ByteArray.empty s w6 (BS.nil _) (by decide)).mono ?_; rw [show ByteArray.empty ++ i8 s = i8 s by simp]; rintro e w7 ⟨v7, rfl, ho, hb⟩
                               have HO7 := Lib.hid (show BS w7 v7 (i8 s) from ho.bs)
                               have HK7 := Lib.hid (HO6.out.below hb)
                               have HB7 := Lib.hid (below_and HB6.out hb)
                               clear ho hb)
                            | (go_at_call 32; refine (int_w v7 (i8 s) d w7 HO7.out (by rw [i8_size]; omega)).mono ?_; rintro e w8 ⟨v8, rfl, ho, hb⟩
                               have HO8 := Lib.hid (show BS w8 v8 (i8 s ++ i8 d) from ho.bs)
                               have HK8 := Lib.hid (HK7.out.below hb)
                               have HB8 := Lib.hid (below_and HB7.out hb)
                               clear ho hb)
                            | (go_at_call 104; refine (HPT.out w8 v6 v8 (HM5.out.below HB8.out) HK8.out HO8.out).mono ?_; rintro e w9 ⟨rfl, hm, hk⟩
                               have HM9 := Lib.hid hm
                               have HK9 := Lib.hid (((Keep.ofBelow HB5.out (fun i => i = b1)).drew.trans (Keep.ofBelow HB8.out (fun i => i = b1)) (fun i hi => .inl hi)).trans hk (fun i hi => .inl hi))
                               clear hm hk))
                      refine hK.out _ _ ?_ (fun hHeld6 => ?_)
                      · dsimp only
                      clear hK K hHeld5
                      try simp only [Act.put, List.setIfInBounds_toArray, List.set_cons_zero, List.set_cons_succ]
                      refine takeN (v := ?_) 13 rfl (by kernel_rfl) (by kernel_rfl) (by kernel_rfl) (fun _ _ _ h => h) (by rfl) ?_ hHeld6 ?_
                      rotate_left
                      · intro w hSw; (try dsimp only at hSw); go_simp; with_reducible rfl
                      try simp only [Act.put, List.setIfInBounds_toArray, List.set_cons_zero, List.set_cons_succ]
                      refine wpAnyH_done (by kernel_rfl) ?_ _
                      go_wp2_with fail
                      go_meet
                      exact ⟨rfl, HM9, HK9⟩
                    exact AllReadyH.nil
                  exact AllReadyH.nil
                refine readyN rfl (fun K hK => ?_) ?_
                · -- operation 9
                  go_simp
                  refine hK.out _ _ ?_ (fun hHeld4 => ?_)
                  · dsimp only
                  clear hK K hHeld3
                  try simp only [Act.put, List.setIfInBounds_toArray, List.set_cons_zero, List.set_cons_succ]
                  refine takeN (v := ?_) 10 rfl (by kernel_rfl) (by kernel_rfl) (by kernel_rfl) (fun _ _ _ h => h) (by rfl) ?_ hHeld4 ?_
                  rotate_left
                  · intro w hSw; (try dsimp only at hSw); go_simp; with_reducible rfl
                  try simp only [Act.put, List.setIfInBounds_toArray, List.set_cons_zero, List.set_cons_succ]
                  refine takeN (v := ?_) 11 rfl (by kernel_rfl) (by kernel_rfl) (by kernel_rfl) (fun _ _ _ h => h) (by rfl) ?_ hHeld4 ?_
                  rotate_left
                  · intro w hSw; (try dsimp only at hSw); go_simp; with_reducible rfl
                  try simp only [Act.put, List.setIfInBounds_toArray, List.set_cons_zero, List.set_cons_succ]
                  refine wpAnyH_ready (rs := [8]) (by kernel_rfl) (by simp) ?_
                  refine readyN rfl (fun K hK => ?_) ?_
                  · -- operation 8
                    go_simp
                    first
                      | (go_at_call 28; refine (key_any 116 (by decide) (by decide) _ [t] _ (U1.out _) (by simp)).mono ?_; rintro e w6 ⟨v6, rfl, ho, hb⟩
                         have HB6 := Lib.hid (show Below w5.drew.heap.size w5.drew w6 from below_and ((Below.refl _ _).alloc (Nat.le_refl _) _) hb)
                         have HO6 := Lib.hid (show BS w6 v6 (tk t) from ho.bs)
                         clear ho hb)
                      | (go_at_call 32; refine (int_w (.slice none 0 0) ByteArray.empty s w6 (BS.nil _) (by decide)).mono ?_; rw [show ByteArray.empty ++ i8 s = i8 s by simp]; rintro e w7 ⟨v7, rfl, ho, hb⟩
                         have HO7 := Lib.hid (show BS w7 v7 (i8 s) from ho.bs)
                         have HK7 := Lib.hid (HO6.out.below hb)
                         have HB7 := Lib.hid (below_and HB6.out hb)
                         clear ho hb)
                      | (go_at_call 32; refine (int_w v7 (i8 s) d w7 HO7.out (by rw [i8_size]; omega)).mono ?_; rintro e w8 ⟨v8, rfl, ho, hb⟩
                         have HO8 := Lib.hid (show BS w8 v8 (i8 s ++ i8 d) from ho.bs)
                         have HK8 := Lib.hid (HK7.out.below hb)
                         have HB8 := Lib.hid (below_and HB7.out hb)
                         clear ho hb)
                      | (go_at_call 104; refine (HPT.out w8 v6 v8 (HM5.out.below HB8.out) HK8.out HO8.out).mono ?_; rintro e w9 ⟨rfl, hm, hk⟩
                         have HM9 := Lib.hid hm
                         have HK9 := Lib.hid (((Keep.ofBelow HB5.out (fun i => i = b1)).drew.trans (Keep.ofBelow HB8.out (fun i => i = b1)) (fun i hi => .inl hi)).trans hk (fun i hi => .inl hi))
                         clear hm hk)
                    go_wp2_with fail
                    refine hK.out _ _ ?_ (fun hHeld5 => ?_)
                    · dsimp only
                    clear hK K hHeld4
                    try simp only [Act.put, List.setIfInBounds_toArray, List.set_cons_zero, List.set_cons_succ]
                    refine wpAnyH_ready (rs := [12]) (by kernel_rfl) (by simp) ?_
                    refine readyN rfl (fun K hK => ?_) ?_
                    · -- operation 12
                      go_simp
                      go_wp2_with (
                          first
                            | (go_at_call 28; refine (key_any 116 (by decide) (by decide) _ [t] _ (U1.out _) (by simp)).mono ?_; rintro e w6 ⟨v6, rfl, ho, hb⟩
                               have HB6 := Lib.hid (show Below w5.drew.heap.size w5.drew w6 from below_and ((Below.refl _ _).alloc (Nat.le_refl _) _) hb)
                               have HO6 := Lib.hid (show BS w6 v6 (tk t) from ho.bs)
                               clear ho hb)
                            | (go_at_call 32; refine (int_w (.slice none 0 0) ByteArray.empty s w6 (BS.nil _) (by decide)).mono ?_; rw [show ByteArray.empty ++ i8 s = i8 s by simp]; rintro e w7 ⟨v7, rfl, ho, hb⟩
                               have HO7 := Lib.hid (show BS w7 v7 (i8 s) from ho.bs)
                               have HK7 := Lib.hid (HO6.out.below hb)
                               have HB7 := Lib.hid (below_and HB6.out hb)
                               clear ho hb)
                            | (go_at_call 32; refine (int_w v7 (i8 s) d w7 HO7.out (by rw [i8_size]; omega)).mono ?_; rintro e w8 ⟨v8, rfl, ho, hb⟩
                               have HO8 := Lib.hid (show BS w8 v8 (i8 s ++ i8 d) from ho.bs)
                               have HK8 := Lib.hid (HK7.out.below hb)
                               have HB8 := Lib.hid (below_and HB7.out hb)
                               clear ho hb)
                            | (go_at_call 104; refine (HPT.out w8 v6 v8 (HM5.out.below HB8.out) HK8.out HO8.out).mono ?_; rintro e w9 ⟨rfl, hm, hk⟩
                               have HM9 := Lib.hid hm
                               have HK9 := Lib.hid (((Keep.ofBelow HB5.out (fun i => i = b1)).drew.trans (Keep.ofBelow HB8.out (fun i => i = b1)) (fun i hi => .inl hi)).trans hk (fun i hi => .inl hi))
                               clear hm hk))
                      refine hK.out _ _ ?_ (fun hHeld6 => ?_)
                      · dsimp only
                      clear hK K hHeld5
                      try simp only [Act.put, List.setIfInBounds_toArray, List.set_cons_zero, List.set_cons_succ]
                      refine takeN (v := ?_) 13 rfl (by kernel_rfl) (by kernel_rfl) (by kernel_rfl) (fun _ _ _ h => h) (by rfl) ?_ hHeld6 ?_
                      rotate_left
                      · intro w hSw; (try dsimp only at hSw); go_simp; with_reducible rfl
                      try simp only [Act.put, List.setIfInBounds_toArray, List.set_cons_zero, List.set_cons_succ]
                      refine wpAnyH_done (by kernel_rfl) ?_ _
                      go_wp2_with fail
                      go_meet
                      exact ⟨rfl, HM9, HK9⟩
                    exact AllReadyH.nil
                  exact AllReadyH.nil
                exact AllReadyH.nil
              refine readyN rfl (fun K hK => ?_) ?_
              · -- operation 9
                go_simp
                refine hK.out _ _ ?_ (fun hHeld3 => ?_)
                · dsimp only
                clear hK K hHeld2
                try simp only [Act.put, List.setIfInBounds_toArray, List.set_cons_zero, List.set_cons_succ]
                refine takeN (v := ?_) 10 rfl (by kernel_rfl) (by kernel_rfl) (by kernel_rfl) (fun _ _ _ h => h) (by rfl) ?_ hHeld3 ?_
                rotate_left
                · intro w hSw; (try dsimp only at hSw); go_simp; with_reducible rfl
                try simp only [Act.put, List.setIfInBounds_toArray, List.set_cons_zero, List.set_cons_succ]
                refine takeN (v := ?_) 11 rfl (by kernel_rfl) (by kernel_rfl) (by kernel_rfl) (fun _ _ _ h => h) (by rfl) ?_ hHeld3 ?_
                rotate_left
                · intro w hSw; (try dsimp only at hSw); go_simp; with_reducible rfl
                try simp only [Act.put, List.setIfInBounds_toArray, List.set_cons_zero, List.set_cons_succ]
                refine wpAnyH_ready (rs := [6]) (by kernel_rfl) (by simp) ?_
                refine readyN rfl (fun K hK => ?_) ?_
                · -- operation 6
                  go_simp
                  first
                    | (go_at_call 28; refine (key_any 116 (by decide) (by decide) _ [t] _ (U1.out _) (by simp)).mono ?_; rintro e w6 ⟨v6, rfl, ho, hb⟩
                       have HB6 := Lib.hid (show Below w5.drew.heap.size w5.drew w6 from below_and ((Below.refl _ _).alloc (Nat.le_refl _) _) hb)
                       have HO6 := Lib.hid (show BS w6 v6 (tk t) from ho.bs)
                       clear ho hb)
                    | (go_at_call 32; refine (int_w (.slice none 0 0) ByteArray.empty s w6 (BS.nil _) (by decide)).mono ?_; rw [show ByteArray.empty ++ i8 s = i8 s by simp]; rintro e w7 ⟨v7, rfl, ho, hb⟩
                       have HO7 := Lib.hid (show BS w7 v7 (i8 s) from ho.bs)
                       have HK7 := Lib.hid (HO6.out.below hb)
                       have HB7 := Lib.hid (below_and HB6.out hb)
                       clear ho hb)
                    | (go_at_call 32; refine (int_w v7 (i8 s) d w7 HO7.out (by rw [i8_size]; omega)).mono ?_; rintro e w8 ⟨v8, rfl, ho, hb⟩
                       have HO8 := Lib.hid (show BS w8 v8 (i8 s ++ i8 d) from ho.bs)
                       have HK8 := Lib.hid (HK7.out.below hb)
                       have HB8 := Lib.hid (below_and HB7.out hb)
                       clear ho hb)
                    | (go_at_call 104; refine (HPT.out w8 v6 v8 (HM5.out.below HB8.out) HK8.out HO8.out).mono ?_; rintro e w9 ⟨rfl, hm, hk⟩
                       have HM9 := Lib.hid hm
                       have HK9 := Lib.hid (((Keep.ofBelow HB5.out (fun i => i = b1)).drew.trans (Keep.ofBelow HB8.out (fun i => i = b1)) (fun i hi => .inl hi)).trans hk (fun i hi => .inl hi))
                       clear hm hk)
                  go_wp2_with fail
                  refine hK.out _ _ ?_ (fun hHeld4 => ?_)
                  · dsimp only
                  clear hK K hHeld3
                  try simp only [Act.put, List.setIfInBounds_toArray, List.set_cons_zero, List.set_cons_succ]
                  refine wpAnyH_ready (rs := [8]) (by kernel_rfl) (by simp) ?_
                  refine readyN rfl (fun K hK => ?_) ?_
                  · -- operation 8
                    go_simp
                    first
                      | (go_at_call 28; refine (key_any 116 (by decide) (by decide) _ [t] _ (U1.out _) (by simp)).mono ?_; rintro e w6 ⟨v6, rfl, ho, hb⟩
                         have HB6 := Lib.hid (show Below w5.drew.heap.size w5.drew w6 from below_and ((Below.refl _ _).alloc (Nat.le_refl _) _) hb)
                         have HO6 := Lib.hid (show BS w6 v6 (tk t) from ho.bs)
                         clear ho hb)
                      | (go_at_call 32; refine (int_w (.slice none 0 0) ByteArray.empty s w6 (BS.nil _) (by decide)).mono ?_; rw [show ByteArray.empty ++ i8 s = i8 s by simp]; rintro e w7 ⟨v7, rfl, ho, hb⟩
                         have HO7 := Lib.hid (show BS w7 v7 (i8 s) from ho.bs)
                         have HK7 := Lib.hid (HO6.out.below hb)
                         have HB7 := Lib.hid (below_and HB6.out hb)
                         clear ho hb)
                      | (go_at_call 32; refine (int_w v7 (i8 s) d w7 HO7.out (by rw [i8_size]; omega)).mono ?_; rintro e w8 ⟨v8, rfl, ho, hb⟩
                         have HO8 := Lib.hid (show BS w8 v8 (i8 s ++ i8 d) from ho.bs)
                         have HK8 := Lib.hid (HK7.out.below hb)
                         have HB8 := Lib.hid (below_and HB7.out hb)
                         clear ho hb)
                      | (go_at_call 104; refine (HPT.out w8 v6 v8 (HM5.out.below HB8.out) HK8.out HO8.out).mono ?_; rintro e w9 ⟨rfl, hm, hk⟩
                         have HM9 := Lib.hid hm
                         have HK9 := Lib.hid (((Keep.ofBelow HB5.out (fun i => i = b1)).drew.trans (Keep.ofBelow HB8.out (fun i => i = b1)) (fun i hi => .inl hi)).trans hk (fun i hi => .inl hi))
                         clear hm hk)
                    go_wp2_with fail
                    refine hK.out _ _ ?_ (fun hHeld5 => ?_)
                    · dsimp only
                    clear hK K hHeld4
                    try simp only [Act.put, List.setIfInBounds_toArray, List.set_cons_zero, List.set_cons_succ]
                    refine wpAnyH_ready (rs := [12]) (by kernel_rfl) (by simp) ?_
                    refine readyN rfl (fun K hK => ?_) ?_
                    · -- operation 12
                      go_simp
                      go_wp2_with (
                          first
                            | (go_at_call 28; refine (key_any 116 (by decide) (by decide) _ [t] _ (U1.out _) (by simp)).mono ?_; rintro e w6 ⟨v6, rfl, ho, hb⟩
                               have HB6 := Lib.hid (show Below w5.drew.heap.size w5.drew w6 from below_and ((Below.refl _ _).alloc (Nat.le_refl _) _) hb)
                               have HO6 := Lib.hid (show BS w6 v6 (tk t) from ho.bs)
                               clear ho hb)
                            | (go_at_call 32; refine (int_w (.slice none 0 0) ByteArray.empty s w6 (BS.nil _) (by decide)).mono ?_; rw [show ByteArray.empty ++ i8 s = i8 s by simp]; rintro e w7 ⟨v7, rfl, ho, hb⟩
                               have HO7 := Lib.hid (show BS w7 v7 (i8 s) from ho.bs)
                               have HK7 := Lib.hid (HO6.out.below hb)
                               have HB7 := Lib.hid (below_and HB6.out hb)
                               clear ho hb)
                            | (go_at_call 32; refine (int_w v7 (i8 s) d w7 HO7.out (by rw [i8_size]; omega)).mono ?_; rintro e w8 ⟨v8, rfl, ho, hb⟩
                               have HO8 := Lib.hid (show BS w8 v8 (i8 s ++ i8 d) from ho.bs)
                               have HK8 := Lib.hid (HK7.out.below hb)
                               have HB8 := Lib.hid (below_and HB7.out hb)
                               clear ho hb)
                            | (go_at_call 104; refine (HPT.out w8 v6 v8 (HM5.out.below HB8.out) HK8.out HO8.out).mono ?_; rintro e w9 ⟨rfl, hm, hk⟩
                               have HM9 := Lib.hid hm
                               have HK9 := Lib.hid (((Keep.ofBelow HB5.out (fun i => i = b1)).drew.trans (Keep.ofBelow HB8.out (fun i => i = b1)) (fun i hi => .inl hi)).trans hk (fun i hi => .inl hi))
                               clear hm hk))
                      refine hK.out _ _ ?_ (fun hHeld6 => ?_)
                      · dsimp only
                      clear hK K hHeld5
                      try simp only [Act.put, List.setIfInBounds_toArray, List.set_cons_zero, List.set_cons_succ]
                      refine takeN (v := ?_) 13 rfl (by kernel_rfl) (by kernel_rfl) (by kernel_rfl) (fun _ _ _ h => h) (by rfl) ?_ hHeld6 ?_
                      rotate_left
                      · intro w hSw; (try dsimp only at hSw); go_simp; with_reducible rfl
                      try simp only [Act.put, List.setIfInBounds_toArray, List.set_cons_zero, List.set_cons_succ]
                      refine wpAnyH_done (by kernel_rfl) ?_ _
                      go_wp2_with fail
                      go_meet
                      exact ⟨rfl, HM9, HK9⟩
                    exact AllReadyH.nil
                  exact AllReadyH.nil
                exact AllReadyH.nil
              exact AllReadyH.nil
            refine readyN rfl (fun K hK => ?_) ?_
            · -- operation 9
              go_simp
              refine hK.out _ _ ?_ (fun hHeld2 => ?_)
              · dsimp only
              clear hK K hHeld1
              try simp only [Act.put, List.setIfInBounds_toArray, List.set_cons_zero, List.set_cons_succ]
              refine takeN (v := ?_) 10 rfl (by kernel_rfl) (by kernel_rfl) (by kernel_rfl) (fun _ _ _ h => h) (by rfl) ?_ hHeld2 ?_
              rotate_left
              · intro w hSw; (try dsimp only at hSw); go_simp; with_reducible rfl
              try simp only [Act.put, List.setIfInBounds_toArray, List.set_cons_zero, List.set_cons_succ]
              refine takeN (v := ?_) 11 rfl (by kernel_rfl) (by kernel_rfl) (by kernel_rfl) (fun _ _ _ h => h) (by rfl) ?_ hHeld2 ?_
              rotate_left
              · intro w hSw; (try dsimp only at hSw); go_simp; with_reducible rfl
              try simp only [Act.put, List.setIfInBounds_toArray, List.set_cons_zero, List.set_cons_succ]
              refine wpAnyH_ready (rs := [4]) (by kernel_rfl) (by simp) ?_
              refine readyN rfl (fun K hK => ?_) ?_
              · -- operation 4
                go_simp
                first
                  | (go_at_call 28; refine (key_any 116 (by decide) (by decide) _ [t] _ (U1.out _) (by simp)).mono ?_; rintro e w6 ⟨v6, rfl, ho, hb⟩
                     have HB6 := Lib.hid (show Below w5.drew.heap.size w5.drew w6 from below_and ((Below.refl _ _).alloc (Nat.le_refl _) _) hb)
                     have HO6 := Lib.hid (show BS w6 v6 (tk t) from ho.bs)
                     clear ho hb)
                  | (go_at_call 32; refine (int_w (.slice none 0 0) ByteArray.empty s w6 (BS.nil _) (by decide)).mono ?_; rw [show ByteArray.empty ++ i8 s = i8 s by simp]; rintro e w7 ⟨v7, rfl, ho, hb⟩
                     have HO7 := Lib.hid (show BS w7 v7 (i8 s) from ho.bs)
                     have HK7 := Lib.hid (HO6.out.below hb)
                     have HB7 := Lib.hid (below_and HB6.out hb)
                     clear ho hb)
                  | (go_at_call 32; refine (int_w v7 (i8 s) d w7 HO7.out (by rw [i8_size]; omega)).mono ?_; rintro e w8 ⟨v8, rfl, ho, hb⟩
                     have HO8 := Lib.hid (show BS w8 v8 (i8 s ++ i8 d) from ho.bs)
                     have HK8 := Lib.hid (HK7.out.below hb)
                     have HB8 := Lib.hid (below_and HB7.out hb)
                     clear ho hb)
                  | (go_at_call 104; refine (HPT.out w8 v6 v8 (HM5.out.below HB8.out) HK8.out HO8.out).mono ?_; rintro e w9 ⟨rfl, hm, hk⟩
                     have HM9 := Lib.hid hm
                     have HK9 := Lib.hid (((Keep.ofBelow HB5.out (fun i => i = b1)).drew.trans (Keep.ofBelow HB8.out (fun i => i = b1)) (fun i hi => .inl hi)).trans hk (fun i hi => .inl hi))
                     clear hm hk)
                go_wp2_with fail
                refine hK.out _ _ ?_ (fun hHeld3 => ?_)
                · dsimp only
                clear hK K hHeld2
                try simp only [Act.put, List.setIfInBounds_toArray, List.set_cons_zero, List.set_cons_succ]
                refine wpAnyH_ready (rs := [6]) (by kernel_rfl) (by simp) ?_
                refine readyN rfl (fun K hK => ?_) ?_
                · -- operation 6
                  go_simp
                  first
                    | (go_at_call 28; refine (key_any 116 (by decide) (by decide) _ [t] _ (U1.out _) (by simp)).mono ?_; rintro e w6 ⟨v6, rfl, ho, hb⟩
                       have HB6 := Lib.hid (show Below w5.drew.heap.size w5.drew w6 from below_and ((Below.refl _ _).alloc (Nat.le_refl _) _) hb)
                       have HO6 := Lib.hid (show BS w6 v6 (tk t) from ho.bs)
                       clear ho hb)
                    | (go_at_call 32; refine (int_w (.slice none 0 0) ByteArray.empty s w6 (BS.nil _) (by decide)).mono ?_; rw [show ByteArray.empty ++ i8 s = i8 s by simp]; rintro e w7 ⟨v7, rfl, ho, hb⟩
                       have HO7 := Lib.hid (show BS w7 v7 (i8 s) from ho.bs)
                       have HK7 := Lib.hid (HO6.out.below hb)
                       have HB7 := Lib.hid (below_and HB6.out hb)
                       clear ho hb)
                    | (go_at_call 32; refine (int_w v7 (i8 s) d w7 HO7.out (by rw [i8_size]; omega)).mono ?_; rintro e w8 ⟨v8, rfl, ho, hb⟩
                       have HO8 := Lib.hid (show BS w8 v8 (i8 s ++ i8 d) from ho.bs)
                       have HK8 := Lib.hid (HK7.out.below hb)
                       have HB8 := Lib.hid (below_and HB7.out hb)
                       clear ho hb)
                    | (go_at_call 104; refine (HPT.out w8 v6 v8 (HM5.out.below HB8.out) HK8.out HO8.out).mono ?_; rintro e w9 ⟨rfl, hm, hk⟩
                       have HM9 := Lib.hid hm
                       have HK9 := Lib.hid (((Keep.ofBelow HB5.out (fun i => i = b1)).drew.trans (Keep.ofBelow HB8.out (fun i => i = b1)) (fun i hi => .inl hi)).trans hk (fun i hi => .inl hi))
                       clear hm hk)
                  go_wp2_with fail
                  refine hK.out _ _ ?_ (fun hHeld4 => ?_)
                  · dsimp only
                  clear hK K hHeld3
                  try simp only [Act.put, List.setIfInBounds_toArray, List.set_cons_zero, List.set_cons_succ]
                  refine wpAnyH_ready (rs := [8]) (by kernel_rfl) (by simp) ?_
                  refine readyN rfl (fun K hK => ?_) ?_
                  · -- operation 8
                    go_simp
                    first
                      | (go_at_call 28; refine (key_any 116 (by decide) (by decide) _ [t] _ (U1.out _) (by simp)).mono ?_; rintro e w6 ⟨v6, rfl, ho, hb⟩
                         have HB6 := Lib.hid (show Below w5.drew.heap.size w5.drew w6 from below_and ((Below.refl _ _).alloc (Nat.le_refl _) _) hb)
                         have HO6 := Lib.hid (show BS w6 v6 (tk t) from ho.bs)
                         clear ho hb)
                      | (go_at_call 32; refine (int_w (.slice none 0 0) ByteArray.empty s w6 (BS.nil _) (by decide)).mono ?_; rw [show ByteArray.empty ++ i8 s = i8 s by simp]; rintro e w7 ⟨v7, rfl, ho, hb⟩
                         have HO7 := Lib.hid (show BS w7 v7 (i8 s) from ho.bs)
                         have HK7 := Lib.hid (HO6.out.below hb)
                         have HB7 := Lib.hid (below_and HB6.out hb)
                         clear ho hb)
                      | (go_at_call 32; refine (int_w v7 (i8 s) d w7 HO7.out (by rw [i8_size]; omega)).mono ?_; rintro e w8 ⟨v8, rfl, ho, hb⟩
                         have HO8 := Lib.hid (show BS w8 v8 (i8 s ++ i8 d) from ho.bs)
                         have HK8 := Lib.hid (HK7.out.below hb)
                         have HB8 := Lib.hid (below_and HB7.out hb)
                         clear ho hb)
                      | (go_at_call 104; refine (HPT.out w8 v6 v8 (HM5.out.below HB8.out) HK8.out HO8.out).mono ?_; rintro e w9 ⟨rfl, hm, hk⟩
                         have HM9 := Lib.hid hm
                         have HK9 := Lib.hid (((Keep.ofBelow HB5.out (fun i => i = b1)).drew.trans (Keep.ofBelow HB8.out (fun i => i = b1)) (fun i hi => .inl hi)).trans hk (fun i hi => .inl hi))
                         clear hm hk)
                    go_wp2_with fail
                    refine hK.out _ _ ?_ (fun hHeld5 => ?_)
                    · dsimp only
                    clear hK K hHeld4
                    try simp only [Act.put, List.setIfInBounds_toArray, List.set_cons_zero, List.set_cons_succ]
                    refine wpAnyH_ready (rs := [12]) (by kernel_rfl) (by simp) ?_
                    refine readyN rfl (fun K hK => ?_) ?_
                    · -- operation 12
                      go_simp
                      go_wp2_with (
                          first
                            | (go_at_call 28; refine (key_any 116 (by decide) (by decide) _ [t] _ (U1.out _) (by simp)).mono ?_; rintro e w6 ⟨v6, rfl, ho, hb⟩
                               have HB6 := Lib.hid (show Below w5.drew.heap.size w5.drew w6 from below_and ((Below.refl _ _).alloc (Nat.le_refl _) _) hb)
                               have HO6 := Lib.hid (show BS w6 v6 (tk t) from ho.bs)
                               clear ho hb)
                            | (go_at_call 32; refine (int_w (.slice none 0 0) ByteArray.empty s w6 (BS.nil _) (by decide)).mono ?_; rw [show ByteArray.empty ++ i8 s = i8 s by simp]; rintro e w7 ⟨v7, rfl, ho, hb⟩
                               have HO7 := Lib.hid (show BS w7 v7 (i8 s) from ho.bs)
                               have HK7 := Lib.hid (HO6.out.below hb)
                               have HB7 := Lib.hid (below_and HB6.out hb)
                               clear ho hb)
                            | (go_at_call 32; refine (int_w v7 (i8 s) d w7 HO7.out (by rw [i8_size]; omega)).mono ?_; rintro e w8 ⟨v8, rfl, ho, hb⟩
                               have HO8 := Lib.hid (show BS w8 v8 (i8 s ++ i8 d) from ho.bs)
                               have HK8 := Lib.hid (HK7.out.below hb)
                               have HB8 := Lib.hid (below_and HB7.out hb)
                               clear ho hb)
                            | (go_at_call 104; refine (HPT.out w8 v6 v8 (HM5.out.below HB8.out) HK8.out HO8.out).mono ?_; rintro e w9 ⟨rfl, hm, hk⟩
                               have HM9 := Lib.hid hm
                               have HK9 := Lib.hid (((Keep.ofBelow HB5.out (fun i => i = b1)).drew.trans (Keep.ofBelow HB8.out (fun i => i = b1)) (fun i hi => .inl hi)).trans hk (fun i hi => .inl hi))
                               clear hm hk))
                      refine hK.out _ _ ?_ (fun hHeld6 => ?_)
                      · dsimp only
                      clear hK K hHeld5
                      try simp only [Act.put, List.setIfInBounds_toArray, List.set_cons_zero, List.set_cons_succ]
                      refine takeN (v := ?_) 13 rfl (by kernel_rfl) (by kernel_rfl) (by kernel_rfl) (fun _ _ _ h => h) (by rfl) ?_ hHeld6 ?_
                      rotate_left
                      · intro w hSw; (try dsimp only at hSw); go_simp; with_reducible rfl
                      try simp only [Act.put, List.setIfInBounds_toArray, List.set_cons_zero, List.set_cons_succ]
                      refine wpAnyH_done (by kernel_rfl) ?_ _
                      go_wp2_with fail
                      go_meet
                      exact ⟨rfl, HM9, HK9⟩
                    exact AllReadyH.nil
                  exact AllReadyH.nil
                exact AllReadyH.nil
              exact AllReadyH.nil
            exact AllReadyH.nil
          refine readyN rfl (fun K hK => ?_) ?_
          · -- operation 9
            go_simp
            refine hK.out _ _ ?_ (fun hHeld1 => ?_)
            · dsimp only
            clear hK K hHeld0
            try simp only [Act.put, List.setIfInBounds_toArray, List.set_cons_zero, List.set_cons_succ]
            refine takeN (v := ?_) 10 rfl (by kernel_rfl) (by kernel_rfl) (by kernel_rfl) (fun _ _ _ h => h) (by rfl) ?_ hHeld1 ?_
            rotate_left
            · intro w hSw; (try dsimp only at hSw); go_simp; with_reducible rfl
            try simp only [Act.put, List.setIfInBounds_toArray, List.set_cons_zero, List.set_cons_succ]
            refine takeN (v := ?_) 11 rfl (by kernel_rfl) (by kernel_rfl) (by kernel_rfl) (fun _ _ _ h => h) (by rfl) ?_ hHeld1 ?_
            rotate_left
            · intro w hSw; (try dsimp only at hSw); go_simp; with_reducible rfl
            try simp only [Act.put, List.setIfInBounds_toArray, List.set_cons_zero, List.set_cons_succ]
            refine wpAnyH_ready (rs := [3]) (by kernel_rfl) (by simp) ?_
            refine readyN rfl (fun K hK => ?_) ?_
            · -- operation 3
              go_simp
              refine hK.out _ _ ?_ (fun hHeld2 => ?_)
              · dsimp only
              clear hK K hHeld1
              try simp only [Act.put, List.setIfInBounds_toArray, List.set_cons_zero, List.set_cons_succ]
              refine wpAnyH_ready (rs := [4]) (by kernel_rfl) (by simp) ?_
              refine readyN rfl (fun K hK => ?_) ?_
              · -- operation 4
                go_simp
                first
                  | (go_at_call 28; refine (key_any 116 (by decide) (by decide) _ [t] _ (U1.out _) (by simp)).mono ?_; rintro e w6 ⟨v6, rfl, ho, hb⟩
                     have HB6 := Lib.hid (show Below w5.drew.heap.size w5.drew w6 from below_and ((Below.refl _ _).alloc (Nat.le_refl _) _) hb)
                     have HO6 := Lib.hid (show BS w6 v6 (tk t) from ho.bs)
                     clear ho hb)
                  | (go_at_call 32; refine (int_w (.slice none 0 0) ByteArray.empty s w6 (BS.nil _) (by decide)).mono ?_; rw [show ByteArray.empty ++ i8 s = i8 s by simp]; rintro e w7 ⟨v7, rfl, ho, hb⟩
                     have HO7 := Lib.hid (show BS w7 v7 (i8 s) from ho.bs)
                     have HK7 := Lib.hid (HO6.out.below hb)
                     have HB7 := Lib.hid (below_and HB6.out hb)
                     clear ho hb)
                  | (go_at_call 32; refine (int_w v7 (i8 s) d w7 HO7.out (by rw [i8_size]; omega)).mono ?_; rintro e w8 ⟨v8, rfl, ho, hb⟩
                     have HO8 := Lib.hid (show BS w8 v8 (i8 s ++ i8 d) from ho.bs)
                     have HK8 := Lib.hid (HK7.out.below hb)
                     have HB8 := Lib.hid (below_and HB7.out hb)
                     clear ho hb)
                  | (go_at_call 104; refine (HPT.out w8 v6 v8 (HM5.out.below HB8.out) HK8.out HO8.out).mono ?_; rintro e w9 ⟨rfl, hm, hk⟩
                     have HM9 := Lib.hid hm
                     have HK9 := Lib.hid (((Keep.ofBelow HB5.out (fun i => i = b1)).drew.trans (Keep.ofBelow HB8.out (fun i => i = b1)) (fun i hi => .inl hi)).trans hk (fun i hi => .inl hi))
                     clear hm hk)
                go_wp2_with fail
                refine hK.out _ _ ?_ (fun hHeld3 => ?_)
                · dsimp only
                clear hK K hHeld2
                try simp only [Act.put, List.setIfInBounds_toArray, List.set_cons_zero, List.set_cons_succ]
                refine wpAnyH_ready (rs := [6]) (by kernel_rfl) (by simp) ?_
                refine readyN rfl (fun K hK => ?_) ?_
                · -- operation 6
                  go_simp
                  first
                    | (go_at_call 28; refine (key_any 116 (by decide) (by decide) _ [t] _ (U1.out _) (by simp)).mono ?_; rintro e w6 ⟨v6, rfl, ho, hb⟩
                       have HB6 := Lib.hid (show Below w5.drew.heap.size w5.drew w6 from below_and ((Below.refl _ _).alloc (Nat.le_refl _) _) hb)
                       have HO6 := Lib.hid (show BS w6 v6 (tk t) from ho.bs)
                       clear ho hb)
                    | (go_at_call 32; refine (int_w (.slice none 0 0) ByteArray.empty s w6 (BS.nil _) (by decide)).mono ?_; rw [show ByteArray.empty ++ i8 s = i8 s by simp]; rintro e w7 ⟨v7, rfl, ho, hb⟩
                       have HO7 := Lib.hid (show BS w7 v7 (i8 s) from ho.bs)
                       have HK7 := Lib.hid (HO6.out.below hb)
                       have HB7 := Lib.hid (below_and HB6.out hb)
                       clear ho hb)
                    | (go_at_call 32; refine (int_w v7 (i8 s) d w7 HO7.out (by rw [i8_size]; omega)).mono ?_; rintro e w8 ⟨v8, rfl, ho, hb⟩
                       have HO8 := Lib.hid (show BS w8 v8 (i8 s ++ i8 d) from ho.bs)
                       have HK8 := Lib.hid (HK7.out.below hb)
                       have HB8 := Lib.hid (below_and HB7.out hb)
                       clear ho hb)
                    | (go_at_call 104; refine (HPT.out w8 v6 v8 (HM5.out.below HB8.out) HK8.out HO8.out).mono ?_; rintro e w9 ⟨rfl, hm, hk⟩
                       have HM9 := Lib.hid hm
                       have HK9 := Lib.hid (((Keep.ofBelow HB5.out (fun i => i = b1)).drew.trans (Keep.ofBelow HB8.out (fun i => i = b1)) (fun i hi => .inl hi)).trans hk (fun i hi => .inl hi))
                       clear hm hk)
                  go_wp2_with fail
                  refine hK.out _ _ ?_ (fun hHeld4 => ?_)
                  · dsimp only
                  clear hK K hHeld3
                  try simp only [Act.put, List.setIfInBounds_toArray, List.set_cons_zero, List.set_cons_succ]
                  refine wpAnyH_ready (rs := [8]) (by kernel_rfl) (by simp) ?_
                  refine readyN rfl (fun K hK => ?_) ?_
                  · -- operation 8
                    go_simp
                    first
                      | (go_at_call 28; refine (key_any 116 (by decide) (by decide) _ [t] _ (U1.out _) (by simp)).mono ?_; rintro e w6 ⟨v6, rfl, ho, hb⟩
                         have HB6 := Lib.hid (show Below w5.drew.heap.size w5.drew w6 from below_and ((Below.refl _ _).alloc (Nat.le_refl _) _) hb)
                         have HO6 := Lib.hid (show BS w6 v6 (tk t) from ho.bs)
                         clear ho hb)
                      | (go_at_call 32; refine (int_w (.slice none 0 0) ByteArray.empty s w6 (BS.nil _) (by decide)).mono ?_; rw [show ByteArray.empty ++ i8 s = i8 s by simp]; rintro e w7 ⟨v7, rfl, ho, hb⟩
                         have HO7 := Lib.hid (show BS w7 v7 (i8 s) from ho.bs)
                         have HK7 := Lib.hid (HO6.out.below hb)
                         have HB7 := Lib.hid (below_and HB6.out hb)
                         clear ho hb)
                      | (go_at_call 32; refine (int_w v7 (i8 s) d w7 HO7.out (by rw [i8_size]; omega)).mono ?_; rintro e w8 ⟨v8, rfl, ho, hb⟩
                         have HO8 := Lib.hid (show BS w8 v8 (i8 s ++ i8 d) from ho.bs)
                         have HK8 := Lib.hid (HK7.out.below hb)
                         have HB8 := Lib.hid (below_and HB7.out hb)
                         clear ho hb)
                      | (go_at_call 104; refine (HPT.out w8 v6 v8 (HM5.out.below HB8.out) HK8.out HO8.out).mono ?_; rintro e w9 ⟨rfl, hm, hk⟩
                         have HM9 := Lib.hid hm
                         have HK9 := Lib.hid (((Keep.ofBelow HB5.out (fun i => i = b1)).drew.trans (Keep.ofBelow HB8.out (fun i => i = b1)) (fun i hi => .inl hi)).trans hk (fun i hi => .inl hi))
                         clear hm hk)
                    go_wp2_with fail
                    refine hK.out _ _ ?_ (fun hHeld5 => ?_)
                    · dsimp only
                    clear hK K hHeld4
                    try simp only [Act.put, List.setIfInBounds_toArray, List.set_cons_zero, List.set_cons_succ]
                    refine wpAnyH_ready (rs := [12]) (by kernel_rfl) (by simp) ?_
                    refine readyN rfl (fun K hK => ?_) ?_
                    · -- operation 12
                      go_simp
                      go_wp2_with (
                          first
                            | (go_at_call 28; refine (key_any 116 (by decide) (by decide) _ [t] _ (U1.out _) (by simp)).mono ?_; rintro e w6 ⟨v6, rfl, ho, hb⟩
                               have HB6 := Lib.hid (show Below w5.drew.heap.size w5.drew w6 from below_and ((Below.refl _ _).alloc (Nat.le_refl _) _) hb)
                               have HO6 := Lib.hid (show BS w6 v6 (tk t) from ho.bs)
                               clear ho hb)
                            | (go_at_call 32; refine (int_w (.slice none 0 0) ByteArray.empty s w6 (BS.nil _) (by decide)).mono ?_; rw [show ByteArray.empty ++ i8 s = i8 s by simp]; rintro e w7 ⟨v7, rfl, ho, hb⟩
                               have HO7 := Lib.hid (show BS w7 v7 (i8 s) from ho.bs)
                               have HK7 := Lib.hid (HO6.out.below hb)
                               have HB7 := Lib.hid (below_and HB6.out hb)
                               clear ho hb)
                            | (go_at_call 32; refine (int_w v7 (i8 s) d w7 HO7.out (by rw [i8_size]; omega)).mono ?_; rintro e w8 ⟨v8, rfl, ho, hb⟩
                               have HO8 := Lib.hid (show BS w8 v8 (i8 s ++ i8 d) from ho.bs)
                               have HK8 := Lib.hid (HK7.out.below hb)
                               have HB8 := Lib.hid (below_and HB7.out hb)
                               clear ho hb)
                            | (go_at_call 104; refine (HPT.out w8 v6 v8 (HM5.out.below HB8.out) HK8.out HO8.out).mono ?_; rintro e w9 ⟨rfl, hm, hk⟩
                               have HM9 := Lib.hid hm
                               have HK9 := Lib.hid (((Keep.ofBelow HB5.out (fun i => i = b1)).drew.trans (Keep.ofBelow HB8.out (fun i => i = b1)) (fun i hi => .inl hi)).trans hk (fun i hi => .inl hi))
                               clear hm hk))
                      refine hK.out _ _ ?_ (fun hHeld6 => ?_)
                      · dsimp only
                      clear hK K hHeld5
                      try simp only [Act.put, List.setIfInBounds_toArray, List.set_cons_zero, List.set_cons_succ]
                      refine takeN (v := ?_) 13 rfl (by kernel_rfl) (by kernel_rfl) (by kernel_rfl) (fun _ _ _ h => h) (by rfl) ?_ hHeld6 ?_
                      rotate_left
                      · intro w hSw; (try dsimp only at hSw); go_simp; with_reducible rfl
                      try simp only [Act.put, List.setIfInBounds_toArray, List.set_cons_zero, List.set_cons_succ]
                      refine wpAnyH_done (by kernel_rfl) ?_ _
                      go_wp2_with fail
                      go_meet
                      exact ⟨rfl, HM9, HK9⟩
                    exact AllReadyH.nil
                  exact AllReadyH.nil
                exact AllReadyH.nil
              exact AllReadyH.nil
            exact AllReadyH.nil
          exact AllReadyH.nil
        case rest =>
          obtain ⟨rfl, HM9, HK9⟩ := hcut
          go_wp2_with fail
          refine (HSG.out _ HM9.out).mono ?_
          rintro e w10 ⟨rfl, hm, hk⟩
          have HM10 := Lib.hid hm
          have HK10 := Lib.hid (HK9.out.trans hk (fun i hi => .inl hi))
          clear hm hk
          go_wp2
          go_ret
          exact ⟨rfl, ⟨_, HM10.out, CS.opened G3.out.nd G2.out t s i d ⟨by omega, h2⟩ HSH.out hi1 hdr HF.out, ST1.out.put (by rw [show ((⟨d, i⟩ : Sg).key t).size = 17 from sk_size _ _]; omega) (by rw [show (be8 i).size = 8 from be_size _ 8]; omega), hm1⟩, HK10.out⟩
end Go.Proofs.YtidppalhjknlfaaGreatDoor
