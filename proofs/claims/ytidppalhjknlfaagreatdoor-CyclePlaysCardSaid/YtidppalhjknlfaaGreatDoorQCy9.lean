/- cycle.Month. -/
import Derived.Test.YtidppalhjknlfaaGreatDoorQCy5
namespace Go.Proofs.YtidppalhjknlfaaGreatDoor
open Go.RowKit
set_option maxRecDepth 100000
set_option maxHeartbeats 2000000
set_option linter.unusedVariables false
set_option linter.unusedSimpArgs false
theorem row_none (w : World) (T : TypeId) (sz : Nat) : (w.alloc (.cells #[] T)).ownsRow w.heap.size T sz (.slice (some ⟨w.heap.size, 0, none⟩) 0 0) 0 [] :=
  ⟨by simp, .inr ⟨w.heap.size, 0, #[], rfl, Nat.le_refl _, blk_new _ _, Nat.le_refl _, by decide, by simp, by simp⟩⟩
theorem clones_any (g off n cap : Nat) (L : List Sg) (w : World) (hv : GR shS w (.slice (some ⟨g, off, none⟩) n cap) L) (hl : L.length ≤ 1000000) :
    Calls Tryz.prog 42 #[.slice (some ⟨g, off, none⟩) n cap] w fun e w' => ∃ v', e = .returned v' ∧ w'.ownsRow w.heap.size 66 shS.sz v' L.length (shS.cells L) ∧ Below w.heap.size w w' := by
  have hnil := fun w => Lib.run_eql_slice_nil (P := Tryz.prog) w 54 66 (some ⟨g, off, none⟩) n cap 0 0 uSg
  simp only [Option.isNone_some] at hnil
  have HV := Lib.hid (hv.alloc (.cells #[] 66))
  have HL0 := Lib.hid (row_none w 66 shS.sz)
  clear hv
  go_enter Tryz.func42, Tryz.ntmps42
  go_wp2_with (at_builtin; go_must (refine wp_app_g 54 66 16 _ uSg iSg rfl (by decide) w.heap.size rfl _ _ rfl _ _ [] L rfl rfl HL0.out HV.out (by simp) (by simp) hl ?_; intro v1 w1 ho hk hat))
  go_ret
  refine ⟨_, rfl, by simpa using ho, ((Below.refl _ _).alloc (Nat.le_refl _) _).trans (hk.below (B := w.heap.size) (by simp) (fun k hk' => by cases hk'; exact Nat.le_refl _))⟩
def monthL (L : List Sg) (M : Int) : List Sg :=
  match (upto L (Cal.first M + Cal.len M - 1)).drop ((upto L (Cal.first M)).length - 1) with
  | [] => []
  | g :: r => ⟨max g.day (Cal.first M), g.plan⟩ :: r
def monE (ts : List Tn) (t M : Int) : Int := if M < 12 ∨ 120000 ≤ M then 1 else match tfind ts t with | none => 4 | some T => if upto T.L (Cal.first M + Cal.len M - 1) = [] then 4 else 0
def monV (ts : List Tn) (t M : Int) : List Sg := if monE ts t M = 0 then monthL (tsegs ts t) M else []
theorem cmonth_arg (p : Nat) (t M : Int) (w : World) (h : M < 12 ∨ 120000 ≤ M) :
    Calls Tryz.prog 16 #[sV p, .int .u32 t, .int .i64 M] w fun e w' => e = .returned (.tuple #[.slice none 0 0, .int .i64 1]) ∧ Below w.heap.size w w' := by
  have HF := Lib.hid (first_no M h w)
  unfold sV pV
  clear h
  go_enter Tryz.func16, Tryz.ntmps16
  go_wp2_with fail
  refine HF.out.mono ?_
  rintro e w1 ⟨rfl, hw⟩
  obtain rfl := hw.symm
  go_wp2
  go_ret2
  exact ⟨rfl, Below.refl _ _⟩
theorem cmonth_no (p b1 b2 m : Nat) (ps : List Pl) (ts : List Tn) (t M : Int) (ht : U32 t) (w : World) (h : CB w p b1 b2 ps ts m) (hT : Tab w) (h1 : 12 ≤ M) (h2 : M < 120000) (hf : tfind ts t = none) :
    Calls Tryz.prog 16 #[sV p, .int .u32 t, .int .i64 M] w fun e w' => e = .returned (.tuple #[.slice none 0 0, .int .i64 4]) ∧ Below w.heap.size w w' := by
  have HF := Lib.hid (first_yes M h1 h2 w hT)
  have HA := Lib.hid fun (W : World) (hb : Below w.heap.size w W) => call_no p b1 b2 m ps ts t ht W (h.below hb) hf
  obtain ⟨F, hF⟩ : ∃ F, F = Cal.first M := ⟨_, rfl⟩
  rw [← hF] at HF
  unfold sV pV at *
  clear h hf hF
  go_enter Tryz.func16, Tryz.ntmps16
  go_wp2_with fail
  refine HF.out.mono ?_
  rintro e w1 ⟨rfl, hw⟩
  obtain rfl := hw.symm
  clear hw
  have HB := Lib.hid (Below.refl w.heap.size w)
  go_wp2_with fail
  refine (HA.out _ HB.out).mono ?_
  rintro e w2 ⟨rfl, hb⟩
  have HB2 := Lib.hid (HB.out.trans (hb.mono HB.out.size))
  clear hb
  go_wp2
  go_ret2
  exact ⟨rfl, HB2.out⟩
theorem upto_mono {L : List Sg} {a b : Int} (h : a ≤ b) : (upto L a).length ≤ (upto L b).length := by
  induction L with
  | nil => simp [upto]
  | cons x L ih =>
    unfold upto at ih ⊢
    by_cases hx : x.day ≤ a
    · rw [List.takeWhile_cons_of_pos (by simpa using hx), List.takeWhile_cons_of_pos (by simp; omega), List.length_cons, List.length_cons]; omega
    · rw [List.takeWhile_cons_of_neg (by simpa using hx)]; simp
theorem cmonth_yes (p b1 b2 m : Nat) (ps : List Pl) (ts : List Tn) (t M : Int) (ht : U32 t) (w : World) (h : CB w p b1 b2 ps ts m) (hT : Tab w) (h1 : 12 ≤ M) (h2 : M < 120000) (T : Tn) (hf : tfind ts t = some T) :
    Calls Tryz.prog 16 #[sV p, .int .u32 t, .int .i64 M] w fun e w' => ∃ v, e = .returned (.tuple #[v, .int .i64 (if upto T.L (Cal.first M + Cal.len M - 1) = [] then 4 else 0)]) ∧ GR shS w' v (if upto T.L (Cal.first M + Cal.len M - 1) = [] then [] else monthL T.L M) ∧ Below w.heap.size w w' := by
  have HF := Lib.hid (first_yes M h1 h2 w hT)
  have HA := Lib.hid fun (W : World) (hb : Below w.heap.size w W) => call_yes p b1 b2 m ps ts t ht W (h.below hb) T hf
  have HLN := Lib.hid fun (W : World) (hb : Below w.heap.size w W) => length_yes M h1 h2 W (hT.below hb (Nat.le_refl _))
  have hll : T.L.length ≤ 1000000 := by
    obtain ⟨now, hM, hC, hS, hm⟩ := h
    have hss : SS now t T.L := by
      have := hC.seg t ht
      unfold tsegs at this
      rw [hf] at this; exact this
    exact Nat.le_trans (seg_len hS.nd hss) (Nat.le_trans hS.len hm)
  have hfb := first_bd M h1 h2
  have hlb := Cal.len_bd M
  unfold monthL
  obtain ⟨F, hF⟩ : ∃ F, F = Cal.first M := ⟨_, rfl⟩
  obtain ⟨N, hN⟩ : ∃ N, N = Cal.len M := ⟨_, rfl⟩
  rw [← hF] at HF hfb ⊢
  rw [← hN] at HLN hlb ⊢
  obtain ⟨L, hL⟩ : ∃ L, L = T.L := ⟨_, rfl⟩
  rw [← hL] at HA hll ⊢
  have x1 : wrap64 (F + N) = F + N := by unfold wrap64; omega
  have x2 : wrap64 (F + N - 1) = F + N - 1 := by unfold wrap64; omega
  have HU1 := Lib.hid fun (v : Value) (W : World) (hv : GR shS W v L) => upto_any v F L W hv hll
  have HU2 := Lib.hid fun (v : Value) (W : World) (hv : GR shS W v L) => upto_any v (F + N - 1) L W hv hll
  have hmo := upto_mono (L := L) (a := F) (b := F + N - 1) (by omega)
  have hul := upto_len L (F + N - 1)
  have hut := upto_take L (F + N - 1)
  obtain ⟨A, hA⟩ : ∃ A, A = upto L F := ⟨_, rfl⟩
  obtain ⟨B, hB⟩ : ∃ B, B = upto L (F + N - 1) := ⟨_, rfl⟩
  rw [← hA] at HU1 hmo ⊢
  rw [← hB] at HU2 hmo hul hut ⊢
  obtain ⟨E, hE⟩ : ∃ E : Int, E = if B = [] then 4 else 0 := ⟨_, rfl⟩
  rw [← hE]
  obtain ⟨R, hR⟩ : ∃ R : List Sg, R = if B = [] then [] else match B.drop (A.length - 1) with | [] => [] | g :: r => ⟨max g.day F, g.plan⟩ :: r := ⟨_, rfl⟩
  rw [← hR]
  have HE := Lib.hid hE
  have HR0 := Lib.hid hR
  unfold sV pV at *
  clear h hf hF hN hL hA hB hE hR
  go_enter Tryz.func16, Tryz.ntmps16
  go_wp2_with fail
  refine HF.out.mono ?_
  rintro e w1 ⟨rfl, hw⟩
  obtain rfl := hw.symm
  clear hw
  have HB := Lib.hid (Below.refl w.heap.size w)
  go_wp2_with fail
  refine (HA.out _ HB.out).mono ?_
  rintro e w2 ⟨v, rfl, hr, hb⟩
  have HB2 := Lib.hid (HB.out.trans (hb.mono HB.out.size))
  have HR2 := Lib.hid hr
  obtain ⟨a, c, rfl, _, _, _⟩ := hr.shape
  clear hb hr HA HF
  go_wp2_with fail
  refine (HU1.out _ _ HR2.out).mono ?_
  rintro e w3 ⟨rfl, hb⟩
  have HB3 := Lib.hid (HB2.out.trans (hb.mono HB2.out.size))
  have HR3 := Lib.hid (HR2.out.below hb)
  clear hb HU1
  go_wp2_with fail
  refine (HLN.out _ HB3.out).mono ?_
  rintro e w4 ⟨rfl, hw⟩
  obtain rfl := hw.symm
  clear hw HLN
  have HB4 := HB3
  have HR4 := HR3
  go_wp2_with fail
  refine (HU2.out _ _ HR4.out).mono ?_
  rintro e w5 ⟨rfl, hb⟩
  have HB5 := Lib.hid (HB4.out.trans (hb.mono HB4.out.size))
  have HR5 := Lib.hid (HR4.out.below hb)
  clear hb HU2 HR3 HR4 HB3 HB4 HR2
  obtain ⟨k, hk⟩ : ∃ k, k = A.length := ⟨_, rfl⟩
  obtain ⟨n, hn⟩ : ∃ n, n = B.length := ⟨_, rfl⟩
  rw [← hk, ← hn] at hmo ⊢
  rw [← hn] at hul hut
  by_cases h0 : n = 0
  · have hB0 : B = [] := List.eq_nil_of_length_eq_zero (by omega)
    have hE : E = 4 := by rw [HE.out, if_pos hB0]
    have hR : R = [] := by rw [HR0.out, if_pos hB0]
    subst hE
    have HRR := Lib.hid hR
    subst h0
    clear hn hB0 hut hR
    go_wp2
    go_ret2
    exact ⟨_, rfl, by rw [HRR.out]; exact GR.nil _, HB5.out⟩
  · have hB0 : B ≠ [] := fun e => by rw [e] at hn; simp at hn; omega
    have hE : E = 0 := by rw [HE.out, if_neg hB0]
    have hR : R = match B.drop (A.length - 1) with | [] => [] | g :: r => ⟨max g.day F, g.plan⟩ :: r := by rw [HR0.out, if_neg hB0]
    rw [← hk] at hR
    subst hE
    have HRR := Lib.hid hR
    clear HE HR0 hR
    have i0 : ((n : Int) == 0) = false := beq_eq_false_iff_ne.2 (by omega)
    have i00 : ¬ ((n : Int) = 0) := by omega
    have HUT := Lib.hid hut
    clear hk hn hut
    obtain ⟨q, hq⟩ : ∃ q : Nat, q = k - 1 := ⟨_, rfl⟩
    have i1 : max 0 (wrap64 ((k : Int) - 1)) = (q : Int) := by unfold wrap64; omega
    obtain ⟨g, off, cap', he, _⟩ := HR5.out.at_ (List.getElem?_eq_getElem (show 0 < L.length by omega))
    injection he with he hx1 hx2
    subst he; subst hx2
    clear hx1
    have hcap : L.length ≤ c := by
      obtain ⟨_, _, he, h1, _⟩ := HR5.out
      cases he; exact h1
    have hqn : q < n := by omega
    have i2 : max 0 ((k : Int) - 1) = (q : Int) := by omega
    have hqq : q = k - 1 := hq
    have HQ := Lib.hid hqq
    have i3 : ((q : Int) ≤ (n : Int)) := by omega
    have i4 : ((n : Int) ≤ (c : Int)) := by omega
    have hG1 := (HR5.out.take n hul)
    rw [← HUT.out] at hG1
    have hBl : B.length = n := by rw [HUT.out, List.length_take]; omega
    have hG2 : GR shS w5 (.slice (some ⟨g, off + q * 2, none⟩) (n - q) (c - q)) (B.drop q) := by
      have h3 : GR shS w5 (.slice (some ⟨g, off, none⟩) B.length c) B := by rw [hBl]; exact hG1
      have h4 := h3.drop q (by omega)
      rw [hBl] at h4
      exact h4
    obtain ⟨x, r, hxr⟩ : ∃ x r, B.drop q = x :: r := by
      cases hd : B.drop q with
      | nil =>
        have := congrArg List.length hd
        rw [List.length_drop, hBl] at this
        simp at this; omega
      | cons x r => exact ⟨x, r, rfl⟩
    have hbl2 : (B.drop q).length ≤ 1000000 := by rw [List.length_drop]; omega
    have HC := Lib.hid (clones_any g (off + q * 2) (n - q) (c - q) (B.drop q) w5 hG2 hbl2)
    rw [hxr] at HC
    have HXR := Lib.hid hxr
    clear hG1 hG2 hBl hbl2 hxr HUT hqq hq HR5
    go_upto_region 11 with (
      go_at_call 42; refine HC.out.mono ?_; rintro e w6 ⟨v6, rfl, ho, hb⟩
      have HO := Lib.hid ho
      have HB6 := Lib.hid hb
      clear ho hb HC)
    obtain ⟨len, hlen⟩ : ∃ len, len = (x :: r).length := ⟨_, rfl⟩
    have hlp : 0 < len := by rw [hlen]; simp
    have ho := HO.out
    have hlow := rowS_low ho
    rw [← hlen] at ho
    rcases ho.2 with ⟨_, h0⟩ | ⟨g6, cap6, cur6, rfl, hb6, hg6, hn6, hm6, hs6, ht6⟩
    · omega
    · have hgr := GR.of_row (S := shS) (L := x :: r) HO.out
      obtain ⟨g', off', cap'', he, c0, c1⟩ := hgr.at2s (i := 0) rfl
      injection he with he hl6 hc6
      injection he with he
      injection he with e1 e2
      subst e1; subst e2; subst hc6
      clear hl6
      simp only [Nat.zero_mul, Nat.add_zero] at c0
      have f0 := blk_frozen hg6 0
      have HO2 := Lib.hid ho
      have HLN := Lib.hid hlen
      have i5 : (0 : Int) < (len : Int) := by omega
      clear hgr c1 ho hb6 hg6 hs6 ht6 hlen HO
      go_wp2
      go_ret2
      have hst := rowS_set HO2.out 0 (by rw [Sh.cells_len]; show 0 < (x :: r).length * 2; simp) (.int .i64 (max x.day F))
      have hcs := Sh.cells_set (S := shS) (x :: r) 0 x ⟨max x.day F, x.plan⟩ 0 (.int .i64 (max x.day F)) rfl (by decide) rfl
      rw [show 0 * shS.sz + 0 = 0 by rw [Nat.zero_mul]] at hcs
      rw [hcs, HLN.out] at hst
      have hR : R = ⟨max x.day F, x.plan⟩ :: r := by rw [HRR.out, ← HQ.out, HXR.out]
      have hb6 := HB5.out.trans (HB6.out.mono HB5.out.size)
      have hge := hlow g6 rfl
      refine ⟨_, rfl, by rw [hR]; exact (show GR shS _ (.slice (some ⟨g6, 0, none⟩) len cap6) _ by rw [HLN.out]; exact GR.of_row (S := shS) (L := ⟨max x.day F, x.plan⟩ :: r) hst), hb6.setCell (p := ⟨g6, 0, none⟩) (by have := HB5.out.size; simp; omega) _⟩
end Go.Proofs.YtidppalhjknlfaaGreatDoor
