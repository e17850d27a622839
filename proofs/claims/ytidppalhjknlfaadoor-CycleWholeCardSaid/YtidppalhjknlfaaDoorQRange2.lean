/- The walk of kv's Range. -/
import Derived.Test.YtidppalhjknlfaaDoorQRange
namespace Go.Proofs.YtidppalhjknlfaaDoor
open Go.RowKit
set_option maxRecDepth 100000
set_option linter.unusedVariables false
set_option linter.unusedSimpArgs false
theorem SR.len {w : World} {base : Nat} {v : Value} {ks : List ByteArray} (h : SR w base v ks) : ∃ a cap, v = .slice a ks.length cap := by
  rcases h.2 with ⟨rfl, h0⟩ | ⟨g, cap, cur, rfl, _⟩
  · exact ⟨none, 0, by rw [h0]⟩
  · exact ⟨_, _, rfl⟩
theorem SR.at_ {w : World} {base : Nat} {v : Value} {ks : List ByteArray} (h : SR w base v ks) {j : Nat} {k : ByteArray} (hj : ks[j]? = some k) : ∃ g cap, v = .slice (some ⟨g, 0, none⟩) ks.length cap ∧ w.cell? ⟨g, j, none⟩ = some (.string k) := by
  have hlt : j < ks.length := (List.getElem?_eq_some_iff.1 hj).1
  rcases h.2 with ⟨rfl, h0⟩ | ⟨g, cap, cur, rfl, hr⟩
  · omega
  · have h' : w.ownsRow base 9 1 (.slice (some ⟨g, 0, none⟩) ks.length cap) ks.length (ks.map Value.string) := h
    have := h'.cells rfl j (.string k) (by rw [List.getElem?_map, hj]; rfl)
    refine ⟨g, cap, rfl, ?_⟩
    have hz : (⟨g, 0, none⟩ : Addr).add j = ⟨g, j, none⟩ := by by_cases h : j = 0 <;> simp [Addr.add, h]
    rwa [hz] at this
theorem BL.one {e : TypeId} {w : World} {v : Value} {s : ByteArray} (h : BL e w v s) : v.oneCell' = true := by
  obtain ⟨b, c, cs, z, rfl, _⟩ := h; rfl
theorem sortS_mem {ks : List ByteArray} {k : ByteArray} (h : k ∈ sortS ks) : k ∈ ks := by
  unfold sortS at h
  obtain ⟨l, hl, rfl⟩ := List.mem_map.1 h
  obtain ⟨k', hk', rfl⟩ := List.mem_map.1 ((List.mergeSort_perm _ _).subset hl)
  rw [mk_data]; exact hk'
def iterLeft (n r : Nat) (w : World) : Nat := match w.heap[r]? with | some (.mapIter _ _ seen _) => n - seen.size | _ => 0
/-- the map's rows are small -/
def Small (l : AL) : Prop := l.length ≤ 1000000 ∧ ∀ p ∈ l, p.1.size ≤ 256 ∧ p.2.size ≤ 1024
set_option maxHeartbeats 4000000
theorem range_any (p : Nat) (room : Int) (b1 b2 : Nat) (now was : AL) (fv tv : Value) (f t : ByteArray) (w : World) (hM : MemIs w p room b1 b2 now was) (hF : BS w fv f) (hT : BS w tv t) (hS : Small now) (hN : AL.ND now) :
    Calls Tryd.prog 97 #[pV p, fv, tv] w fun e w' => ∃ v, e = .returned (.tuple #[v, .int .i64 0]) ∧ PS w' w.heap.size v (AL.range f t now) ∧ Below w.heap.size w w' := by
  have hc1 : w.cell? ⟨p, 1, none⟩ = some (.map (some b1)) := by rw [blk_cell hM.blk]; rfl
  obtain ⟨es, c, hb, hkv, hpw, hborn⟩ := hM.now
  have hnd : (es.toList.map (·.born)).Nodup := hpw.imp (fun h => Nat.ne_of_lt h)
  have hrg := run_range_map (P := Tryd.prog) w 89 9 9 b1 es c uMap hb
  have hlen : es.toList.length = now.length := by have := congrArg List.length hkv; simpa using this
  have hm1 : b1 ≠ p := hM.ne1
  have HM := Lib.hid hM
  have HF := Lib.hid hF
  have HT := Lib.hid hT
  have HS := Lib.hid hS
  have HN := Lib.hid hN
  have HK := Lib.hid hkv
  have HB := Lib.hid hb
  have HBN := Lib.hid hborn
  have HND := Lib.hid hnd
  have HL := Lib.hid hlen
  have hbl : b1 < w.heap.size := blk_lt hb
  unfold pV
  clear hM hF hT hS hN hkv hpw hborn hb hnd hlen
  go_enter Tryd.func97, Tryd.ntmps97
  go_wp2_with fail
  go_loopw [8] (fun ks wr => ∃ vis, Hid (RInv w c b1 w.heap.size es f t wr ks vis)) (fun _ wr => iterLeft (es.toList.length + 1) w.heap.size wr)
  case atStart =>
    refine ⟨[], Lib.hid ⟨blk_new _ _, by simp, by simp, World.ownsRow_nil _ _ _ _, ?_⟩⟩
    exact (Below.refl _ _).alloc (Nat.le_refl _) _
  case round =>
    obtain ⟨vis, HR⟩ := hrel
    have hbw : wr.heap[b1]? = some (.map es c) := (Keep.ofBelow HR.out.keep (fun _ => False)).blk HB.out (fun h => h)
    rcases range_step (P := Tryd.prog) wr w.heap.size b1 c _ es HR.out.iter hbw HBN.out HND.out with ⟨h0, h1⟩ | ⟨e, w2, h1, h2, h3, h4, h5, h6⟩
    · have hp : vis.Perm es.toList := by
        refine vis_perm HND.out HR.out.sub HR.out.nd fun x hx => ?_
        have := h0
        unfold leftOf at this
        rw [Array.size_eq_zero_iff, Array.filter_eq_empty_iff] at this
        have := this x (by simpa using hx)
        simpa using this
      have HP := Lib.hid hp
      have HSR := Lib.hid HR.out.row
      have HBW := Lib.hid HR.out.keep
      clear HR hp h0 hbw
      go_wp2_with fail
      refine (sort_any _ _ _ _ HSR.out ?_).mono ?_
      · have h1 := HP.out.length_eq
        have h2 := List.length_filter_le (selB f t) (vis.map keyOf')
        have h3 := HL.out
        have h4 := HS.out.1
        simp only [List.length_map] at h2
        omega
      rintro e w1 ⟨rfl, hs1, hk1⟩
      have hkey : ∀ k ∈ sortS ((vis.map keyOf').filter (selB f t)), ∃ p ∈ now, p.1 = k := by
        intro k hk
        have h1 := (List.mem_filter.1 (sortS_mem hk)).1
        have h2 : k ∈ es.toList.map keyOf' := (HP.out.map _).subset h1
        rw [keys_kvs HK.out] at h2
        exact List.mem_map.1 h2
      have hq : (sortS ((vis.map keyOf').filter (selB f t))).map (fun k => (k, (AL.get k now).getD ByteArray.empty)) = AL.range f t now :=
        range_eq HN.out f t (((HP.out.map keyOf').trans (by rw [keys_kvs HK.out])).filter _)
      have hn : (sortS ((vis.map keyOf').filter (selB f t))).length ≤ 1000000 := by
        have := congrArg List.length hq
        rw [List.length_map] at this
        rw [this]
        unfold AL.range
        refine Nat.le_trans (List.length_filter_le _ _) ?_
        rw [(srt_perm now).length_eq]; exact HS.out.1
      have HK1 := Lib.hid (HBW.out.trans (hk1.below HBW.out.size (fun i hi => (HSR.out.blk i hi).1)))
      obtain ⟨K, hK⟩ : ∃ K, K = sortS ((vis.map keyOf').filter (selB f t)) := ⟨_, rfl⟩
      rw [← hK] at hs1 hkey hq hn
      obtain ⟨a, cap, rfl⟩ := hs1.len
      have HS1 := Lib.hid hs1
      have HQ := Lib.hid hq
      have HKEY := Lib.hid hkey
      have hb1 : w.heap.size ≤ w1.heap.size := HK1.out.size
      clear hk1 hs1 hK hq hkey HP HSR h1
      obtain ⟨wo, rfl⟩ : ∃ wo : World, wo = wr := ⟨_, rfl⟩
      go_wp2_with fail
      go_loopw [10, 47] (fun b i w3 => ∃ j : Nat, j ≤ K.length ∧ i = .int .i64 j ∧ Hid (PS w3 w.heap.size b ((K.take j).map fun k => (k, (AL.get k now).getD ByteArray.empty))) ∧ Hid (SR w3 w.heap.size (.slice a K.length cap) K) ∧ Hid (Below w.heap.size w w3)) (fun _ i _ => K.length - (intOf i).toNat)
      case atStart => exact ⟨0, by omega, rfl, Lib.hid (PS.nil _ _), HS1, HK1⟩
      case round =>
        obtain ⟨j, hj, rfl, HP3, HS3, HB3⟩ := hrel
        by_cases hlt : j < K.length
        · obtain ⟨k, hk⟩ : ∃ k, K[j]? = some k := ⟨_, List.getElem?_eq_getElem hlt⟩
          obtain ⟨g, cap', ha, hcell⟩ := HS3.out.at_ hk
          injection ha with ha _ hcap
          subst ha; subst hcap
          obtain ⟨pr, hpr, hpk⟩ := HKEY.out k (List.mem_of_getElem? hk)
          have hks : k.size ≤ 256 := by rw [← hpk]; exact (HS.out.2 pr hpr).1
          have hg := (get_some HN.out).2 (show (k, pr.2) ∈ now by rw [← hpk]; exact hpr)
          have hvs : pr.2.size ≤ 1024 := (HS.out.2 pr hpr).2
          have hM3 := HM.out.below HB3.out
          have hc3 : wr.cell? ⟨p, 1, none⟩ = some (.map (some b1)) := by rw [blk_cell hM3.blk]; rfl
          have kc := Lib.run_convert_string_bytes (P := Tryd.prog) wr 9 68 5 k uStr uBytes uByte
          have HB4 := Lib.hid (bytes_below wr 5 k)
          have hc4 : (Lib.bytesWorld wr 5 k).cell? ⟨p, 1, none⟩ = some (.map (some b1)) := (Keep.ofBelow HB4.out (fun _ => False)).cell hc3 (fun h => h)
          have look := MapAt.lookup (P := Tryd.prog) (t := 89) (hM3.below HB4.out).now uMap uStr zStr k
          rw [hg, Option.getD_some] at look
          have kc2 := Lib.run_convert_string_bytes (P := Tryd.prog) (Lib.bytesWorld wr 5 k) 9 68 5 pr.2 uStr uBytes uByte
          have HB5 := Lib.hid (bytes_below (Lib.bytesWorld wr 5 k) 5 pr.2)
          have HL1 := Lib.hid (bl_bytes wr 5 k (by omega))
          have HL2 := Lib.hid (bl_bytes (Lib.bytesWorld wr 5 k) 5 pr.2 (by omega))
          have hts := Lib.hid (show ((K.take (j + 1)).map fun k => (k, (AL.get k now).getD ByteArray.empty)) = ((K.take j).map fun k => (k, (AL.get k now).getD ByteArray.empty)) ++ [(k, pr.2)] by
            rw [List.take_add_one, hk]; simp [hg])
          obtain ⟨wa, hwa⟩ : ∃ wa, wa = Lib.bytesWorld wr 5 k := ⟨_, rfl⟩
          rw [← hwa] at kc hc4 look kc2 HL1 HL2 HB4 HB5
          obtain ⟨wb, hwb⟩ : ∃ wb, wb = Lib.bytesWorld wa 5 pr.2 := ⟨_, rfl⟩
          rw [← hwb] at kc2 HL2 HB5
          obtain ⟨kv, hkv⟩ : ∃ kv, kv = grownCap wr k.size 0 5 := ⟨_, rfl⟩
          rw [← hkv] at kc HL1
          obtain ⟨vv, hvv⟩ : ∃ vv, vv = grownCap wa pr.2.size 0 5 := ⟨_, rfl⟩
          rw [← hvv] at kc2 HL2
          clear hwa hwb hkv hvv hc3 hM3 hg hpr hpk hks hvs
          have HB6 := Lib.hid (below_and HB4.out HB5.out)
          have HPb := Lib.hid (HP3.out.blk)
          obtain ⟨xs, hx1, hx2⟩ := HP3.out.below HB6.out
          have HX1 := Lib.hid hx1
          have HX2 := Lib.hid hx2
          have HL1' := Lib.hid (HL1.out.below HB5.out)
          have o1 := HL1.out.one
          have o2 := HL2.out.one
          have hb6 : w.heap.size ≤ wb.heap.size := Nat.le_trans HB3.out.size HB6.out.size
          have hll : (((K.take j).map fun k => (k, (AL.get k now).getD ByteArray.empty))).length = j := by simp; omega
          clear hx1 hx2 HL1 HP3 HKEY HQ
          go_wp2_with (at_builtin; go_must (refine wp_app_el w.heap.size rfl _ _ 92 96 rfl uPairs _ 2 48 iPair rfl (by decide) (by decide) u10 (((K.take j).map fun k => (k, (AL.get k now).getD ByteArray.empty))).length xs [.slice (some ⟨wr.heap.size, 0, none⟩) k.size kv, .slice (some ⟨wa.heap.size, 0, none⟩) pr.2.size vv] rfl rfl rfl HX1.out hb6 (by rw [hll]; omega) (by simp [o1, o2]) ?_); intro v1 w4 ho1 hg1; have HO := Lib.hid ho1; have HG := Lib.hid hg1; clear ho1 hg1)
          go_wp2
          go_roundw
          case rel =>
            refine ⟨j + 1, by omega, by go_num, Lib.hid ?_, Lib.hid ((HS3.out.keep (Keep.ofBelow HB6.out (fun _ => False)) (fun _ _ h => h)).keep HG.out.keep ?_), Lib.hid (HB3.out.trans ((HB6.out.mono HB3.out.size).trans (HG.out.keep.below hb6 fun i hi => (HX1.out.lt i hi).1)))⟩
            · rw [hts.out]
              refine PS.snoc HX2.out HO.out HX1.out.1 HG.out ?_ HL1'.out HL2.out
              intro i hi
              obtain ⟨_, h2, cur, z, h3⟩ := HPb.out i hi
              exact ⟨cur, z, (Keep.ofBelow HB6.out (fun _ => False)).blk h3 (fun h => h)⟩
            · intro i hi hi'
              obtain ⟨_, h2, cur, z, h3⟩ := HPb.out i hi'
              obtain ⟨_, _, cur', z', h3'⟩ := HS3.out.blk i hi
              rw [h3] at h3'
              cases h3'
          case measure => simp [intOf]; omega
        · have hje : j = K.length := by omega
          subst hje
          go_wp2
          go_ret2
          refine ⟨_, rfl, ?_, HB3.out⟩
          have := HP3.out
          rwa [List.take_length, HQ.out] at this
    · have hkm : ∃ q ∈ now, e.key = .string q.1 := by
        have : (e.key, e.val) ∈ es.toList.map (fun e => (e.key, e.val)) := List.mem_map.2 ⟨e, h1, rfl⟩
        rw [show es.toList.map (fun e => (e.key, e.val)) = _ from HK.out] at this
        obtain ⟨q, hq, he⟩ := List.mem_map.1 this
        exact ⟨q, hq, (Prod.mk.inj he).1.symm⟩
      obtain ⟨q, hq, hek⟩ := hkm
      have hko : keyOf' e = q.1 := by simp only [keyOf', hek]
      have hB2 : Below w.heap.size w w2 := HR.out.keep.trans (h6.below HR.out.keep.size fun i hi => by omega)
      have HB2 := Lib.hid hB2
      have H5 := Lib.hid h5
      have H6 := Lib.hid h6
      have HI := Lib.hid HR.out.iter
      have HE := Lib.hid h1
      have HV := Lib.hid h2
      have cf := ((HF.out.below hB2).string (P := Tryd.prog) 68 5 9 uBytes uByte uStr)
      have ct := ((HT.out.below hB2).string (P := Tryd.prog) 68 5 9 uBytes uByte uStr)
      have ln := HT.out.lenRun (P := Tryd.prog) (t := 68) (e := 5) uBytes 3 w2
      have hS2 : SR w2 w.heap.size u8 ((vis.map keyOf').filter (selB f t)) := HR.out.row.keep h6 (fun i hi h => by
        obtain ⟨_, _, cur, z, h'⟩ := HR.out.row.blk i hi
        rw [h, HR.out.iter] at h'; cases h')
      have HS2 := Lib.hid hS2
      rw [hek] at h3 h4
      have hnd' : ((vis ++ [e]).map (·.born)).Nodup := by
        rw [List.map_append, List.nodup_append]
        refine ⟨HR.out.nd, by simp, fun a ha b hb => ?_⟩
        simp only [List.map_cons, List.map_nil, List.mem_singleton] at hb
        subst hb
        intro he; subst he
        exact h2 (by simpa using ha)
      have hrel' : ∀ (ks' : Value) (w3 : World), w3.heap[w.heap.size]? = w2.heap[w.heap.size]? → SR w3 w.heap.size ks' (((vis ++ [e]).map keyOf').filter (selB f t)) → Below w.heap.size w w3 → RInv w c b1 w.heap.size es f t w3 ks' (vis ++ [e]) := by
        intro ks' w3 e1 e2 e3
        refine ⟨?_, fun x hx => ?_, hnd', e2, e3⟩
        · rw [e1, h5]; simp
        · rcases List.mem_append.1 hx with hx | hx
          · exact HR.out.sub x hx
          · rw [List.mem_singleton.1 hx]; exact h1
      have hvl : vis.length + 1 ≤ es.toList.length := by
        have := (hrel' u8 w2 rfl)
        have h1' : ((vis ++ [e]).map (·.born)).length ≤ (es.toList.map (·.born)).length := by
          refine List.Nodup.length_le_of_subset hnd' ?_
          intro x hx
          obtain ⟨y, hy, rfl⟩ := List.mem_map.1 hx
          refine List.mem_map.2 ⟨y, ?_, rfl⟩
          rcases List.mem_append.1 hy with hy | hy
          · exact HR.out.sub y hy
          · rw [List.mem_singleton.1 hy]; exact h1
        simpa using h1'
      have hfil : ((vis ++ [e]).map keyOf').filter (selB f t) = ((vis.map keyOf').filter (selB f t)) ++ (if selB f t q.1 then [q.1] else []) := by
        rw [List.map_append, List.filter_append]
        simp only [List.map_cons, List.map_nil, hko, List.filter_cons, List.filter_nil]
      have hit : iterLeft (es.toList.length + 1) w.heap.size wr = es.toList.length + 1 - vis.length := by
        unfold iterLeft; rw [HR.out.iter]; simp
      have hit2 : ∀ w3 : World, w3.heap[w.heap.size]? = w2.heap[w.heap.size]? → iterLeft (es.toList.length + 1) w.heap.size w3 = es.toList.length + 1 - (vis.length + 1) := by
        intro w3 e1
        unfold iterLeft; rw [e1, h5]; simp
      have HREL := Lib.hid hrel'
      have HFIL := Lib.hid hfil
      have HIT := Lib.hid hit
      have HIT2 := Lib.hid hit2
      have h2r : w.heap.size < w2.heap.size := blk_lt h5
      clear HR h1 h2 h5 h6 hB2 hS2 hrel' hfil hbw hnd' hit hit2
      cases g1 : slt q.1 f with
      | true =>
        have hs0 : selB f t q.1 = false := by unfold selB; rw [g1]; rfl
        have g1' : Op.bytesLess q.1.toList f.toList = true := g1
        clear g1
        go_wp2_with fail
        go_roundw
        case rel => exact ⟨_, Lib.hid (HREL.out _ _ rfl (by rw [HFIL.out, hs0]; simpa using HS2.out) HB2.out)⟩
        case measure => rw [HIT.out, HIT2.out _ rfl]; omega
      | false =>
        have g1' : Op.bytesLess q.1.toList f.toList = false := g1
        have hb2 : w.heap.size ≤ w2.heap.size := HB2.out.size
        have hln : (((vis.map keyOf').filter (selB f t)).length + 1) * 16 ≤ 140737488355328 := by
          have h2 := List.length_filter_le (selB f t) (vis.map keyOf')
          have h3 := HL.out
          have h4 := HS.out.1
          simp only [List.length_map] at h2
          omega
        have hne : ∀ {v v' : Value} {w4 : World}, v = u8 → Grows w2 w4 v v' → w4.heap[w.heap.size]? = w2.heap[w.heap.size]? := by
          intro v v' w4 hv hg
          subst hv
          refine hg.keep.block _ h2r fun h => ?_
          obtain ⟨_, _, cur, z, h'⟩ := HS2.out.blk _ h
          rw [H5.out] at h'; cases h'
        replace hne := fun {v' : Value} {w4 : World} => hne (v := u8) (v' := v') (w4 := w4) rfl
        by_cases g2 : t.size = 0
        · have hs0 : selB f t q.1 = true := by unfold selB; rw [g1]; simp [g2]
          have g2' : ((t.size : Int) == 0) = true := beq_iff_eq.2 (by omega)
          clear g1 g2
          go_wp2_with (at_builtin; go_must (refine wp_app_el w.heap.size rfl _ _ 150 9 rfl uStrs _ 1 16 iStr rfl (by decide) (by decide) u8 ((vis.map keyOf').filter (selB f t)).length (((vis.map keyOf').filter (selB f t)).map Value.string) [.string q.1] rfl rfl rfl HS2.out hb2 hln (by simp [Value.oneCell']) ?_); intro v1 w4 ho1 hg1; have HO := Lib.hid ho1; have HG := Lib.hid hg1; clear ho1 hg1)
          go_wp2
          go_roundw
          case rel =>
            refine ⟨_, Lib.hid (HREL.out _ _ (hne HG.out) ?_ (HB2.out.trans (HG.out.keep.below hb2 fun i hi => (HS2.out.blk i hi).1)))⟩
            rw [HFIL.out, hs0]
            have := HO.out
            unfold SR
            rw [if_pos rfl, List.length_append, List.map_append]
            exact this
          case measure => rw [HIT.out, HIT2.out _ (hne HG.out)]; omega
        · have g2' : ((t.size : Int) == 0) = false := beq_eq_false_iff_ne.2 (by omega)
          cases g3 : slt q.1 t with
          | true =>
            have hs0 : selB f t q.1 = true := by unfold selB; rw [g1, g3]; simp
            have g3' : Op.bytesLess q.1.toList t.toList = true := g3
            clear g1 g2 g3
            go_wp2_with (at_builtin; go_must (refine wp_app_el w.heap.size rfl _ _ 150 9 rfl uStrs _ 1 16 iStr rfl (by decide) (by decide) u8 ((vis.map keyOf').filter (selB f t)).length (((vis.map keyOf').filter (selB f t)).map Value.string) [.string q.1] rfl rfl rfl HS2.out hb2 hln (by simp [Value.oneCell']) ?_); intro v1 w4 ho1 hg1; have HO := Lib.hid ho1; have HG := Lib.hid hg1; clear ho1 hg1)
            go_wp2
            go_roundw
            case rel =>
              refine ⟨_, Lib.hid (HREL.out _ _ (hne HG.out) ?_ (HB2.out.trans (HG.out.keep.below hb2 fun i hi => (HS2.out.blk i hi).1)))⟩
              rw [HFIL.out, hs0]
              have := HO.out
              unfold SR
              rw [if_pos rfl, List.length_append, List.map_append]
              exact this
            case measure => rw [HIT.out, HIT2.out _ (hne HG.out)]; omega
          | false =>
            have hs0 : selB f t q.1 = false := by unfold selB; rw [g1, g3]; simp [g2]
            have g3' : Op.bytesLess q.1.toList t.toList = false := g3
            clear g1 g2 g3
            go_wp2_with fail
            go_roundw
            case rel => exact ⟨_, Lib.hid (HREL.out _ _ rfl (by rw [HFIL.out, hs0]; simpa using HS2.out) HB2.out)⟩
            case measure => rw [HIT.out, HIT2.out _ rfl]; omega
end Go.Proofs.YtidppalhjknlfaaDoor
