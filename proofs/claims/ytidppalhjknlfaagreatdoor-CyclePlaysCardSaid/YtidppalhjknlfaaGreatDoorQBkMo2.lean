/- The document's book: Month. -/
import Derived.Test.YtidppalhjknlfaaGreatDoorQBkMon
namespace Go.Proofs.YtidppalhjknlfaaGreatDoor
open Go.RowKit
set_option maxRecDepth 100000
set_option maxHeartbeats 4000000
set_option linter.unusedVariables false
set_option linter.unusedSimpArgs false
theorem rmon_any (base q : Nat) (pv tv : Value) (ps : List PV) (ts : List TV) (t M : Int) (w : World) (h : RB base w q pv tv ps ts) (hl : ts.length ≤ 1000000) (hok : TVok ts) :
    Calls Tryz.prog 17 #[.pointer (some ⟨q, 0, none⟩), .int .u32 t, .int .i64 M] w fun e w' => ∃ v, e = .returned (.tuple #[v, .int .i64 (monE (tsOf ts) t M)]) ∧ GR shS w' v (monV (tsOf ts) t M) ∧ Below w.heap.size w w' := by
  by_cases hM : M < 12 ∨ 120000 ≤ M
  · have e1 : monE (tsOf ts) t M = 1 := by unfold monE; rw [if_pos hM]
    have e2 : monV (tsOf ts) t M = [] := by unfold monV; rw [e1]; rfl
    rw [e1, e2]
    have HF := Lib.hid (rfirst_no M hM w)
    clear hM e1 e2 h hok
    go_enter Tryz.func17, Tryz.ntmps17
    go_wp2_with fail
    refine HF.out.mono ?_
    rintro e w1 ⟨rfl, hw⟩
    obtain rfl := hw.symm
    go_wp2
    go_ret2
    exact ⟨_, rfl, GR.nil _, Below.refl _ _⟩
  · have h1 : 12 ≤ M := by omega
    have h2 : M < 120000 := by omega
    have hfb := first_bd M h1 h2
    have hlb := Cal.len_bd M
    have HF := Lib.hid (rfirst_yes M h1 h2 w)
    have HLN := Lib.hid fun (W : World) => rlength_yes M h1 h2 W
    have HT := Lib.hid fun (W : World) (hb : Below w.heap.size w W) => rten_any base q pv tv ps ts t W (h.below hb) hl
    have HAT := Lib.hid fun (W : World) (d : Int) (hb : Below w.heap.size w W) => rat21_any base q pv tv ps ts t d W (h.below hb) hl hok
    cases hf : tfV ts t with
    | none =>
      have e1 : monE (tsOf ts) t M = 4 := by unfold monE; rw [if_neg hM, tfV_eq, hf]; rfl
      have e2 : monV (tsOf ts) t M = [] := by unfold monV; rw [e1]; rfl
      rw [e1, e2]
      rw [hf] at HT
      obtain ⟨F, hF⟩ : ∃ F, F = Cal.first M := ⟨_, rfl⟩
      obtain ⟨N, hN⟩ : ∃ N, N = Cal.len M := ⟨_, rfl⟩
      rw [← hF] at HF hfb
      rw [← hN] at HLN hlb
      have x1 : wrap64 (F + N) = F + N := by unfold wrap64; omega
      have i1 : F < F + N := by omega
      clear hM e1 e2 h hok hF hN hf HAT
      go_enter Tryz.func17, Tryz.ntmps17
      go_wp2_with fail
      refine HF.out.mono ?_
      rintro e w1 ⟨rfl, hb⟩
      have HB := Lib.hid hb
      clear hb HF
      go_wp2_with fail
      refine (HT.out _ HB.out).mono ?_
      rintro e w2 ⟨rfl, hw⟩
      obtain rfl := hw.symm
      clear hw HT
      go_wp2_with fail
      go_loop [11, 12] (fun v i => v = .slice none 0 0 ∧ i = .int .i64 F) (fun _ i => 0)
      case atStart => exact ⟨rfl, rfl⟩
      case round =>
        obtain ⟨rfl, rfl⟩ := hrel
        go_wp2_with fail
        refine (HLN.out _).mono ?_
        rintro e w3 ⟨rfl, hw⟩
        obtain rfl := hw.symm
        clear hw HLN
        go_wp2_with fail
        go_ret2
        exact ⟨_, rfl, GR.nil _, HB.out⟩
    | some x =>
      obtain ⟨hx, _⟩ := tfV_mem hf
      obtain ⟨hup, hne, hll⟩ := hok x hx
      have hti := h.tis x hx
      have hts : tsegs (tsOf ts) t = x.T.L := by unfold tsegs; rw [tfV_eq, hf]; rfl
      have e1 : monE (tsOf ts) t M = if monthL x.T.L M = [] then 4 else 0 := by
        unfold monE; rw [if_neg hM, tfV_eq, hf]
        show (if upto x.T.L _ = [] then (4 : Int) else 0) = _
        by_cases hh : upto x.T.L (Cal.first M + Cal.len M - 1) = []
        · rw [if_pos hh, if_pos ((monthL_nil M).2 hh)]
        · rw [if_neg hh, if_neg (fun e => hh ((monthL_nil M).1 e))]
      have e2 : monV (tsOf ts) t M = monthL x.T.L M := by
        unfold monV; rw [e1, hts]
        by_cases hh : monthL x.T.L M = []
        · rw [if_pos hh, hh]; rfl
        · rw [if_neg hh, if_pos rfl]
      have e3 : ∀ d, atP (tsOf ts) t d = (upto x.T.L d).getLast?.map Sg.plan := fun d => by unfold atP; rw [tfV_eq, hf]; rfl
      have e4 := outL_month hup M (Cal.len M).toNat (by omega) (by omega)
      rw [e1, e2, ← e4]
      obtain ⟨F, hF⟩ : ∃ F, F = Cal.first M := ⟨_, rfl⟩
      obtain ⟨N, hN⟩ : ∃ N : Nat, N = (Cal.len M).toNat := ⟨_, rfl⟩
      have hN2 : Cal.len M = (N : Int) := by omega
      rw [hN2] at HLN hlb
      rw [← hN, ← hF]
      rw [← hF] at HF hfb
      have x1 : wrap64 (F + (N : Int)) = F + N := by unfold wrap64; omega
      have HSG := Lib.hid hti.seg
      have HBK := Lib.hid hti.blk
      obtain ⟨b, hb⟩ : ∃ b, b = x.b := ⟨_, rfl⟩
      obtain ⟨L, hL⟩ : ∃ L, L = x.T.L := ⟨_, rfl⟩
      have hbw : b < w.heap.size := by rw [hb]; exact blk_lt hti.blk
      have d2 : w.cell? ⟨b, 2, none⟩ = some (.slice x.la L.length x.lc) := by rw [hb, hL, blk_cell hti.blk]; rfl
      rw [← hL] at hll e3 HSG ⊢
      have HD := Lib.hid fun (W : World) (hb2 : Below w.heap.size w W) => show W.cell? ⟨b, 2, none⟩ = some (.slice x.la L.length x.lc) from (Keep.ofBelow hb2 (fun _ => False)).cell d2 (fun h => h)
      rw [hf, show Option.map (fun x => (⟨x.b, 0, none⟩ : Addr)) (some x) = some ⟨b, 0, none⟩ by rw [hb]; rfl] at HT
      have E3 := Lib.hid e3
      obtain ⟨E, hE⟩ : ∃ E : Int, E = if outL L F N = [] then 4 else 0 := ⟨_, rfl⟩
      obtain ⟨R, hR⟩ : ∃ R, R = outL L F N := ⟨_, rfl⟩
      rw [← hE, ← hR]
      rw [← hR] at hE
      have HE := Lib.hid hE
      have HRR := Lib.hid hR
      clear hE hR
      clear hM e1 e2 h hok hF hN hN2 hf hx hup hne hti hts e3 e4 HBK hb hL d2
      go_enter Tryz.func17, Tryz.ntmps17
      go_wp2_with fail
      refine HF.out.mono ?_
      rintro e w1 ⟨rfl, hb⟩
      have HB1 := Lib.hid hb
      clear hb HF
      go_wp2_with fail
      refine (HT.out _ HB1.out).mono ?_
      rintro e w2 ⟨rfl, hw⟩
      obtain rfl := hw.symm
      clear hw HT
      go_wp2_with fail
      go_loopw [11, 12] (fun v i wr => ∃ j : Nat, j ≤ N ∧ i = .int .i64 (F + j) ∧ Hid (wr.ownsRow w.heap.size 66 shS.sz v (outL L F j).length (shS.cells (outL L F j))) ∧ Hid (Below w.heap.size w wr)) (fun _ i _ => N - (intOf i - F).toNat)
      case atStart => exact ⟨0, by omega, by simp, Lib.hid (World.ownsRow_nil _ _ _ _), HB1⟩
      case round =>
        obtain ⟨j, hj, rfl, HO, HB⟩ := hrel
        have holen := outL_len L F j
        obtain ⟨a, c, rfl⟩ := rowS_shape HO.out
        by_cases hlt : j < N
        · have i1 : F + (j : Int) < F + (N : Int) := by omega
          have i2 : wrap64 (F + (j : Int) + 1) = F + (j : Int) + 1 := by unfold wrap64; omega
          go_wp2_with fail
          refine (HLN.out _).mono ?_
          rintro e w3 ⟨rfl, hw⟩
          obtain rfl := hw.symm
          clear hw
          go_wp2_with fail
          have HA := Lib.hid (HAT.out wr (F + (j : Int)) HB.out)
          rw [E3.out] at HA
          obtain ⟨u, hu⟩ : ∃ u, u = (upto L (F + (j : Int))).getLast? := ⟨_, rfl⟩
          rw [← hu] at HA
          have HU := Lib.hid hu
          clear hu
          cases u with
          | none =>
            have ho1 : outL L F (j + 1) = outL L F j := by rw [outL]; rw [← HU.out]
            have HO1 := Lib.hid ho1
            rw [show atV (Option.map Sg.plan none) = 0 from rfl, show atE (Option.map Sg.plan none) = 4 from rfl] at HA
            clear ho1
            refine HA.out.mono ?_
            rintro e w3 ⟨rfl, hw⟩
            obtain rfl := hw.symm
            clear hw HA
            go_wp2_with fail
            refine ⟨⟨j + 1, by omega, by go_num, by rw [HO1.out]; exact HO, HB⟩, by simp [intOf]; omega⟩
          | some g =>
            rw [show atV (Option.map Sg.plan (some g)) = g.plan from rfl, show atE (Option.map Sg.plan (some g)) = 0 from rfl] at HA
            obtain ⟨o, ho⟩ : ∃ o, ((((outL L F j).length : Nat) : Int) == 0) = o := ⟨_, rfl⟩
            have ho2 : (outL L F j).isEmpty = o := by
              rw [← ho]; cases outL L F j with
              | nil => rfl
              | cons a r => simp; omega
            obtain ⟨P, hP⟩ : ∃ P, P = g.plan := ⟨_, rfl⟩
            rw [← hP] at HA
            have ho1 : outL L F (j + 1) = if beg o L (F + (j : Int)) L.length = true then outL L F j ++ [⟨F + (j : Int), P⟩] else outL L F j := by rw [outL]; rw [← HU.out, ← ho2, hP]
            have HO1 := Lib.hid ho1
            have d2 := HD.out wr HB.out
            clear ho1 ho2 hP HU
            obtain ⟨n, hn⟩ : ∃ n, n = (outL L F j).length := ⟨_, rfl⟩
            rw [← hn] at ho holen HO ⊢
            have HN := Lib.hid hn
            clear hn
            refine HA.out.mono ?_
            rintro e w3 ⟨rfl, hw⟩
            obtain rfl := hw.symm
            clear hw HA
            go_wp2_with fail
            go_loop [15, 16] (fun v i => ∃ k : Nat, k ≤ L.length ∧ i = .int .i64 k ∧ v = .bool (beg o L (F + (j : Int)) k)) (fun _ i => L.length - (intOf i).toNat)
            case atStart => exact ⟨0, by omega, rfl, by unfold beg; rw [← ho]; simp⟩
            case round =>
              obtain ⟨k, hk, rfl, rfl⟩ := hrel
              by_cases hlk : k < L.length
              · obtain ⟨y, hy⟩ : ∃ y, L[k]? = some y := ⟨_, List.getElem?_eq_getElem hlk⟩
                obtain ⟨g', off', cap', he', a0, a1⟩ := (HSG.out.below HB.out).at2s hy
                injection he' with he' hx1 hx2
                rw [he'] at d2
                have i3 : (k : Int) < (L.length : Int) := by omega
                have HY := Lib.hid (beg_step (o := o) (D := F + (j : Int)) hy)
                clear hx1 hx2 hy he' ho HO1 HO HN
                cases hB : beg o L (F + (j : Int)) k with
                | true =>
                  have hB2 : beg o L (F + (j : Int)) (k + 1) = true := by rw [HY.out, hB]; rfl
                  have HB2 := Lib.hid hB2
                  clear hB hB2 HY
                  go_wp2_with fail
                  go_round
                  case rel => exact ⟨k + 1, by omega, by go_num, by rw [HB2.out]⟩
                  case measure => simp [intOf]; omega
                | false =>
                  by_cases hyd : y.day = F + (j : Int)
                  · have hB2 : beg o L (F + (j : Int)) (k + 1) = true := by rw [HY.out, hyd]; simp
                    have HB2 := Lib.hid hB2
                    clear hB hB2 HY
                    go_wp2_with fail
                    go_round
                    case rel => exact ⟨k + 1, by omega, by go_num, by rw [HB2.out]⟩
                    case measure => simp [intOf]; omega
                  · have hB2 : beg o L (F + (j : Int)) (k + 1) = false := by rw [HY.out, hB]; simp [hyd]
                    have HB2 := Lib.hid hB2
                    clear hB hB2 HY
                    go_wp2_with fail
                    go_round
                    case rel => exact ⟨k + 1, by omega, by go_num, by rw [HB2.out, beq_eq_false_iff_ne.2 hyd]⟩
                    case measure => simp [intOf]; omega
              · obtain rfl : k = L.length := by omega
                have hws := HB.out.size
                cases hB : beg o L (F + (j : Int)) L.length with
                | true =>
                  rw [hB, if_pos rfl] at HO1
                  obtain rfl := HN.out
                  clear hB ho HN
                  go_wp2_with (at_builtin; go_must (refine wp_app_g 54 66 16 _ uSg iSg rfl (by decide) w.heap.size rfl _ _ rfl _ _ (outL L F j) [⟨F + (j : Int), P⟩] rfl rfl (rowS_below HO.out ((Below.refl _ _).alloc (Nat.le_refl _) _)) (GR.lit (S := shS) wr _ [⟨F + (j : Int), P⟩] (by simp)) (by simp; omega) (by omega) (by simp) ?_; intro v6 w6 ho hk hat))
                  have hba := HB.out.alloc hws (.cells #[.int .i64 (F + (j : Int)), .int .u32 P] 66)
                  refine ⟨⟨j + 1, by omega, by go_num, by rw [HO1.out]; exact Lib.hid ho, Lib.hid (hba.trans (hk.below (B := w.heap.size) hba.size (fun i hi => (rowS_low HO.out i hi).1)))⟩, by simp [intOf]; omega⟩
                | false =>
                  rw [hB, if_neg (by decide)] at HO1
                  obtain rfl := HN.out
                  clear hB ho HN
                  go_wp2_with fail
                  refine ⟨⟨j + 1, by omega, by go_num, by rw [HO1.out]; exact HO, HB⟩, by simp [intOf]; omega⟩
        · obtain rfl : j = N := by omega
          rw [← HRR.out] at HO
          have HGR := Lib.hid (GR.of_row (S := shS) HO.out)
          have i1 : ¬ F + (j : Int) < F + (j : Int) := by omega
          by_cases hn : R = []
          · have hE := HE.out
            rw [if_pos hn] at hE
            subst hE
            obtain ⟨n, hn2⟩ : ∃ n, n = (outL L F j).length := ⟨_, rfl⟩
            have hn3 : n = 0 := by rw [hn2, ← HRR.out, hn]; rfl
            rw [← hn2]
            subst hn3
            rw [hn] at HGR
            have HR3 := Lib.hid hn
            clear hn hn2
            go_wp2_with fail
            refine (HLN.out _).mono ?_
            rintro e w3 ⟨rfl, hw⟩
            obtain rfl := hw.symm
            clear hw
            go_wp2_with fail
            go_ret2
            exact ⟨_, rfl, by rw [HR3.out]; exact GR.nil _, HB.out⟩
          · have hE := HE.out
            rw [if_neg hn] at hE
            subst hE
            obtain ⟨n, hn2⟩ : ∃ n, n = (outL L F j).length := ⟨_, rfl⟩
            have hn3 : n = R.length := by rw [hn2, ← HRR.out]
            rw [← hn2]
            have hp : 0 < n := by rw [hn3]; exact List.length_pos_iff.2 hn
            have i4 : ((n : Int) == 0) = false := beq_eq_false_iff_ne.2 (by omega)
            have i5 : ¬ ((n : Int) = 0) := by omega
            have HG2 := Lib.hid HGR.out
            rw [show R.length = n from hn3.symm] at HG2
            clear hn hp hn2 HO holen
            have HN3 := Lib.hid hn3
            clear hn3
            go_wp2_with fail
            refine (HLN.out _).mono ?_
            rintro e w3 ⟨rfl, hw⟩
            obtain rfl := hw.symm
            clear hw
            go_wp2_with fail
            go_ret2
            exact ⟨_, rfl, HG2.out, HB.out⟩
end Go.Proofs.YtidppalhjknlfaaGreatDoor
