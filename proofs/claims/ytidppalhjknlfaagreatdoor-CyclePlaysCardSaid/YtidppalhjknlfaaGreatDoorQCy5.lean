/- cycle.all. -/
import Derived.Test.YtidppalhjknlfaaGreatDoorQCy4
namespace Go.Proofs.YtidppalhjknlfaaGreatDoor
open Go.RowKit
set_option maxRecDepth 100000
set_option maxHeartbeats 2000000
set_option linter.unusedVariables false
set_option linter.unusedSimpArgs false
theorem uSg : Tryz.prog.underlying 54 = some (.slice 66) := by kernel_rfl
theorem iSg : (Tryz.prog.info? 66).map (fun i => (i.zero, i.size, i.bytes)) = some (some (.agg #[.int .i64 0, .int .u32 0]), shS.sz, 16) := by kernel_rfl
theorem call_no (p b1 b2 m : Nat) (ps : List Pl) (ts : List Tn) (t : Int) (ht : U32 t) (w : World) (h : CB w p b1 b2 ps ts m) (hf : tfind ts t = none) :
    Calls Tryz.prog 36 #[sV p, .int .u32 t] w fun e w' => e = .returned (.tuple #[.slice none 0 0, .int .i64 4]) ∧ Below w.heap.size w w' := by
  have HT := Lib.hid (cten_no p b1 b2 m ps ts t ht w h hf)
  unfold sV pV at *
  clear h hf
  go_enter Tryz.func36, Tryz.ntmps36
  go_wp2_with fail
  refine HT.out.mono ?_
  rintro e w1 ⟨rfl, hb⟩
  have HB := Lib.hid hb
  clear hb HT
  go_wp2
  go_ret2
  exact ⟨rfl, HB.out⟩
theorem key_tail (t : Int) (g : Sg) : (g.key t).extract 9 (g.key t).size = be8 g.up := by
  have e : g.key t = sp t ++ be8 g.up := keyS_snoc 115 [t] g.up
  rw [e]
  exact ext_back _ _ 9 (sp_size t).symm
theorem seg_len {now : AL} {t : Int} {L : List Sg} (hn : AL.ND now) (h : SS now t L) : L.length ≤ now.length := by
  have h1 := h.scan hn
  have h2 : (AL.scan (sp t) now).length ≤ now.length := by
    unfold AL.scan
    refine Nat.le_trans (List.length_filter_le _ _) ?_
    rw [(srt_perm now).length_eq]; exact Nat.le_refl _
  rw [h1] at h2
  unfold sprs at h2
  rwa [List.length_map] at h2
theorem call_yes (p b1 b2 m : Nat) (ps : List Pl) (ts : List Tn) (t : Int) (ht : U32 t) (w : World) (h : CB w p b1 b2 ps ts m) (T : Tn) (hf : tfind ts t = some T) :
    Calls Tryz.prog 36 #[sV p, .int .u32 t] w fun e w' => ∃ v, e = .returned (.tuple #[v, .int .i64 0]) ∧ GR shS w' v T.L ∧ Below w.heap.size w w' := by
  have HT := Lib.hid (cten_yes p b1 b2 m ps ts t ht w h T hf)
  obtain ⟨now, hM, hC, hS, hm⟩ := h
  have hss : SS now t T.L := by
    have := hC.seg t ht
    unfold tsegs at this
    rw [hf] at this; exact this
  have hll : T.L.length ≤ 1000000 := Nat.le_trans (seg_len hS.nd hss) (Nat.le_trans hS.len hm)
  have hsc := hss.scan hS.nd
  have hscan := fun sv X hX hS' => scan_any p (-1) b1 b2 now [] sv (sp t) X hX hS' (hS.sml hm) hS.nd
  rw [hsc] at hscan
  have hnum := fun (kv : Value) (g : Sg) (hg : g ∈ T.L) (W : World) (hW : MemIs W p (-1) b1 b2 now []) (hk : BS W kv (g.key t)) => number_any p (-1) b1 b2 now [] kv (g.key t) W hW hk (fun v hv => by have := hS.get hv; omega)
  have hget : ∀ g ∈ T.L, AL.get (g.key t) now = some (be8 g.plan) := fun g hg => (get_some hS.nd).2 (hss.at_ g hg)
  have hnum2 := fun (kv : Value) (g : Sg) (hg : g ∈ T.L) (W : World) (hW : MemIs W p (-1) b1 b2 now []) (hk : BS W kv (g.key t)) => show Calls Tryz.prog 58 #[sV p, kv] W fun e w' => e = .returned (.tuple #[.int .u64 g.plan, .int .i64 0]) ∧ Below W.heap.size W w' by
    have h1 := hnum kv g hg W hW hk
    have h2 := (hss.ok g hg).plan
    rw [hget g hg, show numOf (some (be8 g.plan)) = g.plan by
      unfold numOf; dsimp only; rw [if_pos (show (be8 g.plan).size = 8 from be_size _ 8)]; exact valN_be8 _ (by omega) (by omega), show numE (some (be8 g.plan)) = 0 by
      unfold numE; dsimp only; rw [if_pos (show (be8 g.plan).size = 8 from be_size _ 8)]] at h1
    exact h1
  obtain ⟨L, hL⟩ : ∃ L, L = T.L := ⟨_, rfl⟩
  rw [← hL] at hss hll hscan hnum2 ⊢
  have HOK := Lib.hid hss.ok
  unfold sV at hscan hnum2
  have HSC := Lib.hid hscan
  have HN := Lib.hid hnum2
  have HM := Lib.hid hM
  have h0 := ht.1
  have h1 := ht.2
  have tw : IntKind.u64.wrap t = t := by rw [IntKind.wrap_u64]; omega
  have hpl : (sprs t L).length = L.length := by simp [sprs]
  unfold sV pV at *
  clear hM hC hS hm hf hsc hscan hnum hnum2 hget hL hss
  go_enter Tryz.func36, Tryz.ntmps36
  go_wp2_with fail
  refine HT.out.mono ?_
  rintro e w1 ⟨rfl, hb⟩
  have HM1 := Lib.hid (HM.out.below hb)
  have HB1 := Lib.hid hb
  clear hb HT HM
  go_wp2_with fail
  refine (key_any 115 (by decide) (by decide) _ [t] _ (US.lit1 _ t h0 (by omega) _) (by simp)).mono ?_
  rintro e w2 ⟨v2, rfl, ho, hb⟩
  have hb2 := below_and ((Below.refl w1.heap.size w1).alloc (Nat.le_refl _) _) hb
  have HM2 := Lib.hid (HM1.out.below hb2)
  have HB2 := Lib.hid (HB1.out.trans (hb2.mono HB1.out.size))
  have HO2 := Lib.hid (show BS w2 v2 (sp t) from ho.bs)
  clear ho hb hb2 HM1 HB1
  go_wp2_with fail
  refine (HSC.out v2 w2 HM2.out HO2.out).mono ?_
  rintro e w3 ⟨v3, rfl, hp, hb⟩
  have HM3 := Lib.hid (HM2.out.below hb)
  have HB3 := Lib.hid (HB2.out.trans (hb.mono HB2.out.size))
  have HP3 := Lib.hid hp
  obtain ⟨a, cap, rfl, _, _, hc3⟩ := hp
  rw [hpl] at HP3 ⊢
  clear hb HSC HM2 HB2 HO2 hc3 hpl
  go_wp2_with fail
  go_loopw [11, 43] (fun v i wr => ∃ j : Nat, j ≤ L.length ∧ i = .int .i64 j ∧ Hid (wr.ownsRow w3.heap.size 66 shS.sz v (L.take j).length (shS.cells (L.take j))) ∧ Hid (Below w3.heap.size w3 wr)) (fun _ i _ => L.length - (intOf i).toNat)
  case atStart => exact ⟨0, by omega, rfl, Lib.hid (World.ownsRow_nil _ _ _ _), Lib.hid (Below.refl _ _)⟩
  case round =>
    obtain ⟨j, hj, rfl, HO, HB⟩ := hrel
    by_cases hlt : j < L.length
    · obtain ⟨x, hx⟩ : ∃ x, L[j]? = some x := ⟨_, List.getElem?_eq_getElem hlt⟩
      have hpx : (sprs t L)[j]? = some (x.key t, be8 x.plan) := by unfold sprs; rw [List.getElem?_map, hx]; rfl
      have hxm := List.mem_of_getElem? hx
      have htk : L.take (j + 1) = L.take j ++ [x] := by rw [List.take_add_one, hx]; rfl
      have hok := HOK.out x hxm
      obtain ⟨a', cap', he, hq1, hq2, h3⟩ := HP3.out.below HB.out
      injection he with he hle hcap
      subst he; subst hcap
      clear hle hq1 hq2
      rcases h3 with h3 | ⟨g, rfl, h3⟩
      · rw [h3] at hpx; simp at hpx
      · obtain ⟨kv, vv, c1, c2, e1, e2⟩ := h3 j _ hpx
        obtain ⟨ak, ck, rfl, _, _⟩ := e1.len2 (show (x.key t).size = 17 from sk_size _ _)
        obtain ⟨av, cv, rfl, _, _⟩ := e2.len2 (show (be8 x.plan).size = 8 from be_size _ 8)
        rw [Nat.mul_comm] at c1 c2
        have hcap := e1.capm
        have hks : (x.key t).size = 17 := sk_size _ _
        obtain ⟨a3, m3, c3, hm3, hsl, hbs3⟩ := sl_lo ak ck (x.key t) 9 .i64 9 rfl (by omega) (by have := hcap.2.1; omega) hcap.2.2.1 hcap.2.2.2
        rw [hks] at hm3 hsl hbs3 
        obtain rfl : m3 = 8 := hm3
        have hb3 := hbs3 wr e1
        rw [← hks, key_tail] at hb3
        have hup := hok.up
        have hvn : (valN (be8 x.up).data.toList : Int) = x.up := valN_be8 _ hup.1 hup.2
        have hl8 : (be8 x.up).data.toList.length = 8 := by rw [data_len]; exact be_size _ 8
        have hdd := hok.day
        have hpp := hok.plan
        have hue : x.up = x.day + 4294967296 := rfl
        have W1 : IntKind.i64.wrap x.up = x.up := by rw [IntKind.wrap_i64]; omega
        have W2 : wrap64 (x.up - 4294967296) = x.day := by unfold wrap64; omega
        have W3 : IntKind.u32.wrap x.plan = x.plan := by rw [IntKind.wrap_u32]; omega
        have HBS := Lib.hid hb3
        have HK := Lib.hid e1
        have HX := Lib.hid hxm
        have HTK := Lib.hid htk
        have HVN := Lib.hid hvn
        have HL8 := Lib.hid hl8
        have hws := HB.out.size
        obtain ⟨W, hW⟩ : ∃ W, W = wr.alloc (.cells #[.slice ak 17 ck, .slice av 8 cv] 117) := ⟨_, rfl⟩
        have hbW : Below wr.heap.size wr W := by rw [hW]; exact (Below.refl _ _).alloc (Nat.le_refl _) _
        have hz : W.heap[wr.heap.size]? = some (.cells #[.slice ak 17 ck, .slice av 8 cv] 117 (0, 0)) := by rw [hW]; exact blk_new _ _
        have d0 := blk_cell hz 0
        have HZ := Lib.hid hz
        have HBW := Lib.hid hbW
        clear h3 e1 e2 hpx htk hb3 hbs3 hvn hl8 hcap hks hxm hup hdd hpp hue hz hbW hx hok
        go_upto_region 11 with fail
        rw [← hW]
        clear hW c1 c2
        go_wp2_with fail
        go_loop [14, 51] (fun n i => ∃ k : Nat, k ≤ 8 ∧ i = .int .i64 k ∧ n = .int .u64 (valN ((be8 x.up).data.toList.take k))) (fun _ i => 8 - (intOf i).toNat)
        case atStart => exact ⟨0, by omega, rfl, rfl⟩
        case round =>
          obtain ⟨k, hk, rfl, rfl⟩ := hrel
          by_cases hkt : k < 8
          · have hl8 := HL8.out
            obtain ⟨b, off, rfl, hc⟩ := (HBS.out.below HBW.out).at_ (i := k) (by rw [show (be8 x.up).size = 8 from be_size _ 8]; omega)
            have hcj := hc k (by rw [show (be8 x.up).size = 8 from be_size _ 8]; omega)
            have hval : valN ((be8 x.up).data.toList.take (k + 1)) = valN ((be8 x.up).data.toList.take k) * 256 + ((be8 x.up).data.toList.getD k 0).toNat := by
              rw [List.take_succ_eq_append_getElem (by omega), valN_snoc, List.getD_eq_getElem?_getD, List.getElem?_eq_getElem (by omega)]; rfl
            have hb : ((be8 x.up).data.toList.getD k 0).toNat < 256 := UInt8.toNat_lt _
            have hn : valN ((be8 x.up).data.toList.take k) < 256 ^ 7 := by
              have := valN_lt ((be8 x.up).data.toList.take k)
              rw [List.length_take, hl8] at this
              exact Nat.lt_of_lt_of_le this (Nat.pow_le_pow_right (by decide) (by omega))
            generalize ((be8 x.up).data.toList.getD k 0).toNat = c at hcj hval hb
            generalize valN ((be8 x.up).data.toList.take k) = y at hval hn ⊢
            clear hc hl8
            go_wp2
            go_round
            case rel =>
              refine ⟨k + 1, by omega, by go_num, ?_⟩
              rw [hval]
              have h1 : y * 256 < 18446744073709551616 := by omega
              have h2 := bits_or_u64_nat (y * 256) c h1 (by omega)
              have h3 : y * 256 ||| c = y * 256 + c := by
                have := Nat.two_pow_add_eq_or_of_lt (i := 8) (b := c) hb y
                rw [Nat.mul_comm y 256]; exact this.symm
              rw [h3] at h2
              rw [show ((y : Int) * 256) = ((y * 256 : Nat) : Int) by omega, h2]
            case measure => simp [intOf]; omega
          · obtain rfl : k = 8 := by omega
            rw [show (be8 x.up).data.toList.take 8 = (be8 x.up).data.toList from List.take_of_length_le (by rw [HL8.out]; exact Nat.le_refl _), HVN.out]
            have HNN := Lib.hid (HN.out (.slice ak 17 ck) x HX.out W (HM3.out.below (HB.out.trans (HBW.out.mono hws))) (HK.out.below HBW.out))
            go_wp2_with fail
            refine HNN.out.mono ?_
            rintro e w5 ⟨rfl, hb⟩
            have HB5 := Lib.hid hb
            have hb5 : Below wr.heap.size wr w5 := HBW.out.trans (hb.mono HBW.out.size)
            have HO5 := Lib.hid (rowS_below (rowS_below HO.out hb5) ((Below.refl _ _).alloc (Nat.le_refl _) (.cells #[.int .i64 x.day, .int .u32 x.plan] 66)))
            have HBR := Lib.hid hb5
            have hs5 := hb5.size
            clear hb hb5 HNN
            have hlj : (L.take j).length ≤ 1000000 := by rw [List.length_take]; omega
            go_wp2_with (at_builtin; go_must (refine wp_app_g 54 66 16 _ uSg iSg rfl (by decide) w3.heap.size rfl _ _ rfl _ _ (L.take j) [x] rfl rfl HO5.out (GR.lit (S := shS) w5 _ [x] (by simp)) (by simp; omega) hlj (by simp) ?_; intro v6 w6 ho hk hat))
            have hba := (HB.out.trans (HBR.out.mono hws)).alloc (by omega) (.cells #[.int .i64 x.day, .int .u32 x.plan] 66)
            refine ⟨⟨j + 1, by omega, by go_num, by rw [HTK.out]; exact Lib.hid ho, Lib.hid (hba.trans (hk.below (B := w3.heap.size) hba.size (fun i hi => (rowS_low HO.out i hi).1)))⟩, by simp [intOf]; omega⟩
    · obtain rfl : j = L.length := by omega
      rw [List.take_length] at HO
      go_wp2_with fail
      go_ret2
      exact ⟨_, rfl, GR.of_row HO.out, HB3.out.trans (HB.out.mono HB3.out.size)⟩
end Go.Proofs.YtidppalhjknlfaaGreatDoor
