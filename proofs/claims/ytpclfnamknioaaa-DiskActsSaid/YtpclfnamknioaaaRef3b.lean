/- The document's disk (chapter 3): the walks of its zeros, Read, counts, Fuse, Waits, Write. -/
import Derived.Test.YtpclfnamknioaaaRef3
namespace Go.Proofs.Ytpclfnamknioaaa
open Go.RowKit
set_option maxRecDepth 100000
set_option maxHeartbeats 1000000
set_option linter.unusedVariables false
set_option linter.unusedSimpArgs false
theorem uStr3 : Try.prog.underlying 9 = some .string := by kernel_rfl
/-- string(make([]byte, n)) -/
theorem zstr (w : World) (n : Nat) (hn : n ≤ maxLen) : (convert 27 9 (.slice (some ⟨w.heap.size, 0, none⟩) n n)).run Try.prog (w.alloc (.cells (madeCells #[.int .u8 0] n) 5)) = .ok (.string (zp n)) (w.alloc (.cells (madeCells #[.int .u8 0] n) 5)) :=
  (Own.zeros 5 w n hn).bs.string (P := Try.prog) 27 5 9 uBytes uByte uStr3
theorem zeros_any (w : World) : Calls Try.prog 40 #[] w fun e w' => e = .returned (.string (zp 4096)) ∧ Below w.heap.size w w' := by
  have hmk := run_make_row' (P := Try.prog) 27 5 (.int .u8 0) 1 uBytes iByte rfl .i64 .i64 4096 (by decide) (by decide)
  have hz := zstr w 4096 (by decide)
  have HB := Lib.hid ((Below.refl w.heap.size w).alloc (Nat.le_refl _) (.cells (madeCells #[.int .u8 0] 4096) 5))
  rw [show ((4096 : Nat) : Int) = 4096 from rfl] at hmk
  obtain ⟨mc, hmc⟩ : ∃ mc, mc = madeCells #[Value.int .u8 0] 4096 := ⟨_, rfl⟩
  rw [← hmc] at hmk hz HB
  obtain ⟨z, hzz⟩ : ∃ z, z = zp 4096 := ⟨_, rfl⟩
  rw [← hzz] at hz ⊢
  clear hmc hzz
  go_enter Try.func40, Try.ntmps40
  go_wp2
  go_ret
  exact ⟨rfl, HB.out⟩
section
variable {w : World} {B p : Nat} {vL vN : Value} {R : R3}
theorem rread_any (at_ : Int) (hX : R3Is w B p vL vN R) (hl : R.N.length ≤ 1000) (hL : R.L.length ≤ 4096) :
    Calls Try.prog 25 #[rV p, .int .i64 at_] w fun e w' => e = .returned (.tuple #[.string (if sureE R.dead R.L.length at_ 4096 = 0 then readR R at_.toNat else ByteArray.empty), .int .i64 (sureE R.dead R.L.length at_ 4096)]) ∧ w' = w := by
  obtain ⟨la, lc, rfl⟩ := rowk_shape hX.rowL
  have hc0 := hX.c0
  have hc3 := hX.c3
  cases hd : R.dead with
  | true =>
    rw [hd] at hc3
    rw [show sureE true R.L.length at_ 4096 = 9 from rfl, if_neg (by decide)]
    unfold rV
    clear hX
    go_enter Try.func25, Try.ntmps25
    go_wp2
    go_ret2
    exact ⟨rfl, rfl⟩
  | false =>
    rw [hd] at hc3
    rcases (show at_ < 0 ∨ (0 ≤ at_ ∧ (R.L.length : Int) ≤ at_) ∨ (0 ≤ at_ ∧ at_ < R.L.length) by omega) with h1 | ⟨h1, h2⟩ | ⟨h1, h2⟩
    · have e : sureE false R.L.length at_ 4096 = 1 := by unfold sureE; rw [if_neg (by decide), if_pos (.inl h1)]
      rw [e, if_neg (by decide)]
      have i1 : decide (at_ < 0) = true := decide_eq_true h1
      unfold rV
      clear hX e
      go_enter Try.func25, Try.ntmps25
      go_wp2
      go_ret2
      exact ⟨rfl, rfl⟩
    · have e : sureE false R.L.length at_ 4096 = 1 := by unfold sureE; rw [if_neg (by decide), if_pos (.inr (.inl h2))]
      rw [e, if_neg (by decide)]
      have i1 : decide (at_ < 0) = false := decide_eq_false (by omega)
      have i2 : decide (at_ ≥ (R.L.length : Int)) = true := decide_eq_true (by omega)
      unfold rV
      clear hX e
      go_enter Try.func25, Try.ntmps25
      go_wp2
      go_ret2
      exact ⟨rfl, rfl⟩
    · have e : sureE false R.L.length at_ 4096 = 0 := by unfold sureE; rw [if_neg (by decide), if_neg (by omega)]
      rw [e, if_pos rfl]
      obtain ⟨k, rfl⟩ : ∃ k : Nat, at_ = k := ⟨at_.toNat, by omega⟩
      have HA := Lib.hid (rat_any k hX hl hL (by omega))
      rw [Int.toNat_natCast]
      obtain ⟨r, hr⟩ : ∃ r, r = readR R k := ⟨_, rfl⟩
      rw [← hr] at HA ⊢
      have i1 : decide ((k : Int) < 0) = false := decide_eq_false (by omega)
      have i2 : decide ((k : Int) ≥ (R.L.length : Int)) = false := decide_eq_false (by omega)
      unfold rV at *
      clear hX e hr
      go_enter Try.func25, Try.ntmps25
      go_wp2_with fail
      refine HA.out.mono ?_
      rintro e w1 ⟨rfl, hw⟩
      obtain rfl := hw.symm
      go_wp2_with fail
      go_ret2
      exact ⟨rfl, rfl⟩
def countS (R : R3) : R3 := if R.left = 0 then { R with dead := true } else if 0 < R.left then { R with left := R.left - 1 } else R
theorem countS_L : (countS R).L = R.L ∧ (countS R).N = R.N := by unfold countS; split; exact ⟨rfl, rfl⟩; split <;> exact ⟨rfl, rfl⟩
theorem counts_any (hX : R3Is w B p vL vN R) :
    Calls Try.prog 46 #[rV p] w fun e w' => e = .returned (.bool (decide (R.left ≠ 0))) ∧ R3Is w' B p vL vN (countS R) ∧ Keep (fun i => i = p) w w' := by
  have hc2 := hX.c2
  have hc3 := hX.c3
  have hf2 := hX.fz 2
  have hf3 := hX.fz 3
  have hlf := hX.lft
  have HX := Lib.hid hX
  unfold rV
  rcases (show R.left = 0 ∨ 0 < R.left ∨ R.left < 0 by omega) with h | h | h
  · rw [show decide (R.left ≠ 0) = false from decide_eq_false (by simp [h])]
    have i1 : (R.left == 0) = true := beq_iff_eq.2 h
    have HE := Lib.hid (show countS R = { R with dead := true } by unfold countS; rw [if_pos h])
    clear hX h
    go_enter Try.func46, Try.ntmps46
    go_wp2
    go_ret
    refine ⟨rfl, ?_, (Keep.refl (fun i => i = p) w).setCell (p := ⟨p, 3, none⟩) (.inl rfl) _⟩
    rw [HE.out]
    exact HX.out.set { R with dead := true } rfl rfl hlf ((Keep.refl (fun i => i = p) w).setCell (p := ⟨p, 3, none⟩) (.inl rfl) _) (blk_setCell HX.out.blk 3 _)
  · rw [show decide (R.left ≠ 0) = true from decide_eq_true (by omega)]
    have i1 : (R.left == 0) = false := beq_eq_false_iff_ne.2 (by omega)
    have i2 : decide (R.left > 0) = true := decide_eq_true h
    have i3 : IntKind.i64.wrap (R.left - 1) = R.left - 1 := by rw [IntKind.wrap_i64]; omega
    have HE := Lib.hid (show countS R = { R with left := R.left - 1 } by unfold countS; rw [if_neg (by omega), if_pos h])
    clear hX
    go_enter Try.func46, Try.ntmps46
    go_wp2
    go_ret
    refine ⟨rfl, ?_, (Keep.refl (fun i => i = p) w).setCell (p := ⟨p, 2, none⟩) (.inl rfl) _⟩
    rw [HE.out]
    exact HX.out.set { R with left := R.left - 1 } rfl rfl (by show R.left - 1 ≤ _; omega) ((Keep.refl (fun i => i = p) w).setCell (p := ⟨p, 2, none⟩) (.inl rfl) _) (blk_setCell HX.out.blk 2 _)
  · rw [show decide (R.left ≠ 0) = true from decide_eq_true (by omega)]
    have i1 : (R.left == 0) = false := beq_eq_false_iff_ne.2 (by omega)
    have i2 : decide (R.left > 0) = false := decide_eq_false (by omega)
    have HE := Lib.hid (show countS R = R by unfold countS; rw [if_neg (by omega), if_neg (by omega)])
    clear hX
    go_enter Try.func46, Try.ntmps46
    go_wp2
    go_ret
    rw [HE.out]
    exact ⟨rfl, HX.out, Keep.refl _ _⟩
def rfuseS (R : R3) (n : Int) : R3 := if R.dead = true then R else { R with left := n }
theorem rfuse_any (n : Int) (hn : n ≤ 9223372036854775807) (hX : R3Is w B p vL vN R) :
    Calls Try.prog 43 #[rV p, .int .i64 n] w fun e w' => e = .returned (.tuple #[]) ∧ R3Is w' B p vL vN (rfuseS R n) ∧ Keep (fun i => i = p) w w' := by
  have hc3 := hX.c3
  have hc2 := hX.c2
  have hf2 := hX.fz 2
  have HX := Lib.hid hX
  unfold rV
  cases hd : R.dead with
  | true =>
    have HE := Lib.hid (show rfuseS R n = R by unfold rfuseS; rw [if_pos hd])
    rw [hd] at hc3
    clear hX
    go_enter Try.func43, Try.ntmps43
    go_wp2
    go_end0
    rw [HE.out]
    exact ⟨rfl, HX.out, Keep.refl _ _⟩
  | false =>
    have HE := Lib.hid (show rfuseS R n = { R with left := n } by unfold rfuseS; rw [if_neg (by rw [hd]; decide)])
    have HD := Lib.hid hd
    rw [hd] at hc3
    clear hX hd
    go_enter Try.func43, Try.ntmps43
    go_wp2
    go_end0
    rw [HE.out]
    refine ⟨rfl, HX.out.set { R with left := n } rfl rfl hn ((Keep.refl (fun i => i = p) w).setCell (p := ⟨p, 2, none⟩) (.inl rfl) _) (blk_setCell HX.out.blk 2 _), (Keep.refl (fun i => i = p) w).setCell (p := ⟨p, 2, none⟩) (.inl rfl) _⟩
theorem take_snoc {α : Type} (l : List α) (i : Nat) (x : α) (h : l[i]? = some x) : l.take (i + 1) = l.take i ++ [x] := by
  have hi := (List.getElem?_eq_some_iff.1 h).1
  rw [List.take_add_one, h]; rfl
theorem wOf_keys_len : ∀ (n : Nat) (N : List (Int × ByteArray)), N.length = n → ((wOf N).map (·.1)).length ≤ n
  | 0, N, hn => by rw [List.eq_nil_of_length_eq_zero hn]; exact Nat.le_refl _
  | n + 1, N, hn => by
    obtain ⟨M, q, rfl⟩ : ∃ M q, N = M ++ [q] := by
      have hne : N ≠ [] := fun e => by rw [e] at hn; cases hn
      exact ⟨N.dropLast, N.getLast hne, (List.dropLast_concat_getLast hne).symm⟩
    have hM : M.length = n := by rw [List.length_append] at hn; simpa using hn
    have ih := wOf_keys_len n M hM
    rw [wOf_snoc, wput_keys]
    split
    · omega
    · rw [List.length_append, List.length_singleton]; omega
theorem rwaits_any (hX : R3Is w B p vL vN R) (hl : R.N.length ≤ 1000) :
    Calls Try.prog 24 #[rV p] w fun e w' => ∃ v, e = .returned v ∧ w'.ownsRow w.heap.size 3 1 v ((wOf R.N).map (·.1)).length (((wOf R.N).map (·.1)).map (Value.int .i64)) ∧ Below w.heap.size w w' := by
  obtain ⟨na, nc, rfl⟩ := rowk_shape hX.rowN
  have HX := Lib.hid hX
  obtain ⟨n, hn⟩ : ∃ n, n = R.N.length := ⟨_, rfl⟩
  have HN := Lib.hid hn
  rw [← hn] at hl HX
  unfold rV
  clear hX hn
  go_enter Try.func24, Try.ntmps24
  go_wp2_with fail
  go_loopw [3, 4] (fun v s wr => ∃ i : Nat, i ≤ n ∧ s = .int .i64 i ∧ Hid (wr.ownsRow w.heap.size 3 1 v ((wOf (R.N.take i)).map (·.1)).length (((wOf (R.N.take i)).map (·.1)).map (Value.int .i64))) ∧ Hid (Below w.heap.size w wr)) (fun _ s _ => n - (intOf s).toNat)
  case atStart => exact ⟨0, by omega, rfl, Lib.hid (World.ownsRow_nil _ _ _ _), Lib.hid (Below.refl _ _)⟩
  case round =>
    obtain ⟨i, hi, rfl, HO, HB⟩ := hrel
    have HXR := Lib.hid (HX.out.below HB.out)
    have hc1 := HXR.out.c1
    by_cases hlt : i < n
    · have i1 : decide ((i : Int) < (n : Int)) = true := decide_eq_true (by omega)
      obtain ⟨q, hq⟩ : ∃ q, R.N[i]? = some q := ⟨_, List.getElem?_eq_getElem (by have := HN.out; omega)⟩
      obtain ⟨a, u⟩ := q
      obtain ⟨ks, hks⟩ : ∃ ks, ks = (wOf (R.N.take i)).map (·.1) := ⟨_, rfl⟩
      have hk1000 : ks.length ≤ 1000 := by have := wOf_keys_len _ (R.N.take i) rfl; rw [List.length_take, ← hks] at this; omega
      have HKS := Lib.hid (show ∀ l, l = (wOf (R.N.take (i + 1))).map (·.1) → l = if a ∈ ks then ks else ks ++ [a] from fun l hl => by
        rw [hl, take_snoc _ _ _ hq, wOf_snoc, wput_keys, wget_some, ← hks]
        by_cases h : a ∈ ks <;> simp [h])
      rw [← hks] at HO
      obtain ⟨oa, oc, rfl⟩ := rowk_shape HO.out
      have HQ := Lib.hid hq
      obtain ⟨wo, rfl⟩ : ∃ wo : World, wo = wr := ⟨_, rfl⟩
      clear hks hq
      go_wp2_with fail
      go_loopw [5, 6] (fun f s wi => ∃ k : Nat, k ≤ ks.length ∧ s = .int .i64 k ∧ f = .bool (decide (a ∉ ks.take k)) ∧ Hid (Below wo.heap.size wo wi)) (fun _ s _ => ks.length - (intOf s).toNat)
      case atStart => exact ⟨0, by omega, rfl, by simp, Lib.hid (Below.refl _ _)⟩
      case round =>
        obtain ⟨k, hk, rfl, rfl, HBI⟩ := hrel
        have HXI := Lib.hid (HXR.out.below HBI.out)
        have HOI := Lib.hid (rowk_keep (Keep.ofBelow HBI.out (fun _ => False)) HO.out (fun _ _ h => h))
        by_cases hkl : k < ks.length
        · have i2 : decide ((k : Int) < (ks.length : Int)) = true := decide_eq_true (by omega)
          obtain ⟨x, hx⟩ : ∃ x, ks[k]? = some x := ⟨_, List.getElem?_eq_getElem hkl⟩
          obtain ⟨g1, d1, he, hcell⟩ := rowk_cell HOI.out (by omega)
          injection he with he _ hec
          subst he; subst hec
          have q1 : ∀ m, (wr.drewN m).cell? ⟨g1, k, none⟩ = some (.int .i64 x) := fun m => hcell k _ (by rw [List.getElem?_map, hx]; rfl)
          obtain ⟨g2, d2, he, hcell2⟩ := rowk_cell HXI.out.rowN (by have := HN.out; omega)
          rw [← HN.out] at he
          injection he with he _ hec
          subst he; subst hec
          have q2 : ∀ m, (wr.drewN m).cell? ⟨g2, i * 2, none⟩ = some (.int .i64 a) := fun m => hcell2 _ _ (nflat_get R.N i _ HQ.out).1
          have q3 : ∀ m, (wr.drewN m).cell? ⟨p, 1, none⟩ = some (.slice (some ⟨g2, 0, none⟩) n nc) := fun m => HXI.out.c1
          have hst : decide (a ∉ ks.take (k + 1)) = (decide (a ∉ ks.take k) && !(x == a)) := by
            rw [take_snoc _ _ _ hx]
            by_cases h1 : a ∈ ks.take k
            · simp [h1]
            · by_cases h2 : a = x
              · subst h2; simp
              · have h3 : ¬ x = a := fun e => h2 e.symm
                simp [h1, h2, h3]
          have HST := Lib.hid hst
          obtain ⟨b, hb⟩ : ∃ b, b = decide (a ∉ ks.take k) := ⟨_, rfl⟩
          rw [← hb] at HST ⊢
          clear hcell hcell2 hst hb hx
          cases b with
          | false =>
            go_wp2_with fail
            go_quiet (fail)
            go_wp2_with fail
            exact ⟨⟨k + 1, by omega, rfl, by rw [HST.out]; rfl, Lib.hid (below_drewN HBI.out _)⟩, by simp [intOf]; omega⟩
          | true =>
            go_wp2_with fail
            go_quiet (fail)
            go_wp2_with fail
            exact ⟨⟨k + 1, by omega, rfl, by rw [HST.out]; rfl, Lib.hid (below_drewN HBI.out _)⟩, by simp [intOf]; omega⟩
        · obtain rfl : k = ks.length := by omega
          have i2 : decide ((ks.length : Int) < (ks.length : Int)) = false := decide_eq_false (by omega)
          rw [List.take_length]
          by_cases ha : a ∈ ks
          · rw [show decide (a ∉ ks) = false from decide_eq_false (by simp [ha])]
            have HKK := Lib.hid (show (wOf (R.N.take (i + 1))).map (·.1) = ks by rw [HKS.out _ rfl, if_pos ha])
            clear ha
            go_wp2_with fail
            exact ⟨⟨i + 1, by omega, rfl, Lib.hid (by rw [HKK.out]; exact HOI.out), Lib.hid (HB.out.trans (HBI.out.mono HB.out.size))⟩, by simp [intOf]; omega⟩
          · rw [show decide (a ∉ ks) = true from decide_eq_true ha]
            have HKK := Lib.hid (show (wOf (R.N.take (i + 1))).map (·.1) = ks ++ [a] by rw [HKS.out _ rfl, if_neg ha])
            obtain ⟨g2, d2, he, hcell2⟩ := rowk_cell HXI.out.rowN (by have := HN.out; omega)
            rw [← HN.out] at he
            injection he with he _ hec
            subst he; subst hec
            have q2 : wr.cell? ⟨g2, i * 2, none⟩ = some (.int .i64 a) := hcell2 _ _ (nflat_get R.N i _ HQ.out).1
            have q3 : wr.cell? ⟨p, 1, none⟩ = some (.slice (some ⟨g2, 0, none⟩) n nc) := HXI.out.c1
            have hbs : w.heap.size ≤ wr.heap.size := Nat.le_trans HB.out.size HBI.out.size
            clear ha hcell2
            go_wp2_with (at_builtin; go_must (refine wp_app_int w.heap.size rfl _ _ rfl (.slice oa ks.length oc) ks a rfl rfl HOI.out hbs (by omega) ?_); intro v6 w6 ho6 hk6 hn6; have HO6 := Lib.hid ho6; have HK6 := Lib.hid hk6; have HN6 := Lib.hid hn6; clear ho6 hk6 hn6)
            exact ⟨⟨i + 1, by omega, rfl, Lib.hid (by rw [HKK.out]; exact HO6.out), Lib.hid ((HB.out.trans (HBI.out.mono HB.out.size)).trans (HK6.out.below hbs (fun k hk => (rowk_blk HOI.out hk).1)))⟩, by simp [intOf]; omega⟩
    · obtain rfl : i = n := by omega
      have i1 : decide ((i : Int) < (i : Int)) = false := decide_eq_false (by omega)
      have HT := Lib.hid (show R.N.take i = R.N by rw [HN.out]; exact List.take_length)
      go_wp2_with fail
      go_ret
      refine ⟨_, rfl, ?_, HB.out⟩
      have := HO.out
      rw [HT.out, List.length_map, List.map_map] at this
      exact this
end
end Go.Proofs.Ytpclfnamknioaaa
