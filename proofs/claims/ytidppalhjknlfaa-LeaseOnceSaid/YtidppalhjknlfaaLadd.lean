/- lease.Add. -/
import Derived.Test.YtidppalhjknlfaaLes2
import Derived.Test.YtidppalhjknlfaaEntry
namespace Go.Proofs.Ytidppalhjknlfaa
open Go.RowKit
set_option maxRecDepth 100000
set_option maxHeartbeats 4000000
set_option linter.unusedVariables false
set_option linter.unusedSimpArgs false
theorem dels_snoc (now : AL) (t : Int) (G : List Ls) (x : Ls) : dels now t (G ++ [x]) = AL.del (lk t x.id) (dels now t G) := by simp [dels]
theorem drop_one {L : List Ls} (hu : L.Pairwise fun a b => a.id < b.id) (m : Int) (j : Nat) (x : Ls) (hx : (gone m L)[j]? = some x) : dropE (L.filter fun l => ((gone m L).take j).all fun g => decide (l.id ≠ g.id)) x.id = 0 := by
  have hg : (gone m L).Pairwise fun a b => a.id < b.id := hu.sublist List.filter_sublist
  have hj := (List.getElem?_eq_some_iff.1 hx).1
  unfold dropE
  rw [if_pos]
  rw [List.any_eq_true]
  refine ⟨x, List.mem_filter.2 ⟨(List.mem_filter.1 (List.mem_of_getElem? hx)).1, ?_⟩, decide_eq_true rfl⟩
  rw [List.all_eq_true]
  intro g hgm
  obtain ⟨i, hi, he⟩ := List.mem_iff_getElem.1 hgm
  rw [List.length_take] at hi
  rw [List.getElem_take] at he
  refine decide_eq_true ?_
  rw [List.pairwise_iff_getElem] at hg
  have h := hg i j (by omega) hj (by omega)
  have hxe : (gone m L)[j] = x := (List.getElem?_eq_some_iff.1 hx).2
  rw [hxe, he] at h
  omega
theorem num_last {last : Int} (h0 : 0 ≤ last) (h1 : last ≤ 4294967295) : numOf (if last = 0 then none else some (be8 last)) = last ∧ numE (if last = 0 then none else some (be8 last)) = 0 := by
  by_cases h : last = 0
  · rw [if_pos h, h]; exact ⟨rfl, rfl⟩
  · rw [if_neg h]
    unfold numOf numE
    dsimp only
    have h8 : (be8 last).size = 8 := be_size last 8
    rw [if_pos h8, if_pos h8]
    exact ⟨valN_be8 last h0 (by omega), rfl⟩
theorem LR.mem {w w' : World} {b : Nat} {al : AL} {v : Value} {L : List Ls} (h : LR w v L) (hm : MapAt w b al) (hk : Keep (fun i => i = b) w w') : LR w' v L :=
  h.keep hk (fun k o x hc e => by subst e; obtain ⟨es, c, h1, _⟩ := hm; simp [World.cell?, h1] at hc)
theorem ladd_any (p b1 b2 : Nat) (now was : AL) (t : Int) (ht : U32 t) (L : List Ls) (last : Int) (l : Ls) (hlo : l.Ok) (m : Int) (hm : W64 m) (w : World) (hM : MemIs w p (-1) b1 b2 now was) (hSm : Small now) (hN : AL.ND now) (hL : LS now t L last) (hl : L.length ≤ 1000000) (hi : last + 1 ≤ 4294967295) :
    Calls Try.prog 9 #[sV p, .int .u32 t, l.val, .int .i64 m] w fun e w' => e = .returned (.tuple #[.int .u32 (addI L last l m), .int .i64 (addE L l m)]) ∧ MemIs w' p (-1) b1 b2 (addS now t L last l m) was ∧ Keep (fun i => i = b1) w w' := by
  obtain ⟨id, un, ex, dy, mo⟩ := l
  have hb : Below w.heap.size w ((w.alloc (.cells #[.int .u32 id, .int .i64 un, .int .i64 ex, .int .i64 dy, .int .i64 mo] 31)).alloc (.cells #[.int .i64 m] 2)) := ((Below.refl _ _).alloc (Nat.le_refl _) _).alloc (by simp) _
  have q1 := blk_alloc (blk_new w (.cells #[.int .u32 id, .int .i64 un, .int .i64 ex, .int .i64 dy, .int .i64 mo] 31)) (.cells #[.int .i64 m] 2)
  have q2 := blk_newAt (w := w.alloc (.cells #[.int .u32 id, .int .i64 un, .int .i64 ex, .int .i64 dy, .int .i64 mo] 31)) (k := w.heap.size + 1) (by simp) (.cells #[.int .i64 m] 2)
  have HM := Lib.hid (hM.below hb)
  have hM0 := hM
  have HB := Lib.hid hb
  have Q1 := Lib.hid q1
  have Q2 := Lib.hid q2
  have HLO := Lib.hid hlo
  have HLS := Lib.hid hL
  have hu := hlo.units
  have hex := hlo.exp
  unfold W64 at hu hex hm
  dsimp only at hu hex
  obtain ⟨E, hE⟩ : ∃ E, E = addE L ⟨id, un, ex, dy, mo⟩ m := ⟨_, rfl⟩
  obtain ⟨I, hI⟩ : ∃ I, I = addI L last ⟨id, un, ex, dy, mo⟩ m := ⟨_, rfl⟩
  obtain ⟨S, hS⟩ : ∃ S, S = addS now t L last ⟨id, un, ex, dy, mo⟩ m := ⟨_, rfl⟩
  rw [← hE, ← hI, ← hS]
  have c0 := (blk_cell q1 0)
  have c1 := (blk_cell q1 1)
  have c2 := (blk_cell q1 2)
  have c3 := (blk_cell q1 3)
  have c4 := (blk_cell q1 4)
  have d0 := (blk_cell q2 0)
  have HSm := Lib.hid hSm
  have HN := Lib.hid hN
  unfold Ls.val
  by_cases hmay : mayAdd ⟨id, un, ex, dy, mo⟩ m
  · obtain ⟨m1, m2, m3, m4, m5⟩ := hmay
    dsimp only at m1 m2 m3 m4 m5
    have k1 : ¬ un < 1 := by omega
    have k2 : ¬ 1099511627776 < un := by omega
    have k3 : ¬ ex ≤ m := by omega
    have k4 : ¬ 137438953472 < ex := by omega
    have k5 : ¬ m < wrap64 (ex - 86400) := by omega
    have HV := Lib.hid (llive_any p b1 b2 (-1) now was t ht L last m _ HM.out hSm hN hL hl)
    have HMAY := Lib.hid (show mayAdd ⟨id, un, ex, dy, mo⟩ m from ⟨m1, m2, m3, m4, m5⟩)
    have HE := Lib.hid hE
    have HI := Lib.hid hI
    have HS := Lib.hid hS
    have HLL := Lib.hid (show (live m L).length ≤ 1000000 from Nat.le_trans (List.length_filter_le _ _) hl)
    unfold sV pV at *
    clear hE hI hS hM hSm hN hL hlo hb q1 q2 m1 m2 m3 m4 m5
    go_enter Try.func9, Try.ntmps9
    go_wp2_with fail
    refine HV.out.mono ?_
    rintro e w1 ⟨v, rfl, hr, hb⟩
    have HM1 := Lib.hid (HM.out.below hb)
    have HB1 := Lib.hid (HB.out.trans (hb.mono HB.out.size))
    have Q11 := Lib.hid ((Keep.ofBelow hb (fun _ => False)).blk Q1.out (fun h => h))
    have Q21 := Lib.hid ((Keep.ofBelow hb (fun _ => False)).blk Q2.out (fun h => h))
    have HLL := HLL.out
    obtain ⟨va, vc, rfl, v1, v2, v3⟩ := hr.shape
    clear hr hb HV c0 c1 c2 c3 c4 d0 k1 k2 k3 k4 k5 v1 v2 v3
    obtain ⟨n, hn⟩ : ∃ n, n = (live m L).length := ⟨_, rfl⟩
    rw [← hn] at HLL ⊢
    by_cases h8 : 8 ≤ n
    · have hE2 : E = 3 := by rw [HE.out]; unfold addE; rw [if_neg (fun h => h HMAY.out), if_pos (by omega)]
      have hI2 : I = 0 := by rw [HI.out]; unfold addI; rw [← HE.out, hE2]; rfl
      have hS2 : S = now := by rw [HS.out]; unfold addS; rw [← HE.out, hE2]; rfl
      subst hE2
      subst hI2
      subst hS2
      have i8 : (8 : Int) ≤ (n : Int) := by omega
      clear hn
      go_wp2_with fail
      go_ret2
      exact ⟨rfl, HM1.out, Keep.ofBelow HB1.out _⟩
    · have hE2 : E = 0 := by rw [HE.out]; unfold addE; rw [if_neg (fun h => h HMAY.out), if_neg (by omega)]
      have hI2 : I = last + 1 := by rw [HI.out]; unfold addI; rw [← HE.out, hE2]; rfl
      have hS2 : S = addA (dels now t (gone m L)) t ⟨last + 1, un, ex, dy, mo⟩ := by rw [HS.out]; unfold addS; rw [← HE.out, hE2]; rfl
      subst hE2
      subst hI2
      have HS2 := Lib.hid hS2
      have i8 : ¬ (8 : Int) ≤ (n : Int) := by omega
      have HG := Lib.hid (those_gone p b1 b2 (w.heap.size + 1) (-1) now was t ht L last m w1 HM1.out HSm.out HN.out HLS.out hl (by rw [blk_cell Q21.out]; rfl) (blk_lt Q21.out))
      unfold sV pV at HG
      have HGL := Lib.hid (show (gone m L).length ≤ 1000000 from Nat.le_trans (List.length_filter_le _ _) hl)
      clear hn hS2 HE HI HS
      go_wp2_with fail
      refine HG.out.mono ?_
      rintro e w2 ⟨gv, rfl, hr, hb⟩
      have HM2 := Lib.hid (HM1.out.below hb)
      have HB2 := Lib.hid (HB1.out.trans (hb.mono HB1.out.size))
      have Q12 := Lib.hid ((Keep.ofBelow hb (fun _ => False)).blk Q11.out (fun h => h))
      have Q22 := Lib.hid ((Keep.ofBelow hb (fun _ => False)).blk Q21.out (fun h => h))
      have HR2 := Lib.hid hr
      obtain ⟨ga, gc, rfl, v1, v2, v3⟩ := hr.shape
      have hgl := HGL.out
      clear hr hb HG HM1 HB1 Q11 Q21 v3 h8 i8
      obtain ⟨G, hG⟩ : ∃ G, G = gone m L := ⟨_, rfl⟩
      rw [← hG] at HR2 HS2 hgl v1 ⊢
      have hb1 : b1 < w.heap.size := by
        obtain ⟨es, c, h1, _⟩ := hM0.now
        exact blk_lt h1
      have hb2 : b2 < w.heap.size := by
        obtain ⟨es, c, h1, _⟩ := hM0.was
        exact blk_lt h1
      have hp0 : p < w.heap.size := blk_lt hM0.blk
      clear hM0
      have hok : ∀ g ∈ G, U32 g.id := fun g hg => (HLS.out.ok g (List.mem_filter.1 (hG ▸ hg)).1).1.id
      have D0 := Lib.hid fun (j : Nat) => LS.dels ht (G.take j) HN.out HLS.out (fun g hg => hok g (List.mem_of_mem_take hg))
      have D1 := Lib.hid fun (j : Nat) (x : Ls) (hx : G[j]? = some x) => drop_one HLS.out.up m j x (by rw [← hG]; exact hx)
      rw [← hG] at D1
      have HOK := Lib.hid hok
      have HG2 := Lib.hid hG
      have MM0 := Lib.hid (show MemIs w2 p (-1) b1 b2 (dels now t (G.take 0)) was from HM2.out)
      have KK0 := Lib.hid (Keep.ofBelow HB2.out (fun i => i = b1))
      clear hG hok HM2
      go_wp2_with fail
      go_loopw [72] (fun s wr => ∃ j : Nat, j ≤ G.length ∧ s = .int .i64 j ∧ Hid (MemIs wr p (-1) b1 b2 (dels now t (G.take j)) was) ∧ Hid (Keep (fun i => i = b1) w wr) ∧ Hid (wr.heap[w.heap.size]? = some (.cells #[.int .u32 id, .int .i64 un, .int .i64 ex, .int .i64 dy, .int .i64 mo] 31 (0, 0))) ∧ Hid (LR wr (.slice ga G.length gc) G)) (fun s _ => G.length - (intOf s).toNat)
      case atStart => exact ⟨0, by omega, rfl, MM0, KK0, Q12, HR2⟩
      case round =>
        clear MM0 KK0 Q12 HR2
        obtain ⟨j, hj, rfl, MM, KK, QQ, RR⟩ := hrel
        by_cases hlt : j < G.length
        · obtain ⟨x, hx⟩ : ∃ x, G[j]? = some x := ⟨_, List.getElem?_eq_getElem hlt⟩
          obtain ⟨g, off, cap', he, c0, c1, c2, c3, c4⟩ := RR.out.at_ hx
          injection he with he _ hcap
          subst he; subst hcap
          have htk : G.take (j + 1) = G.take j ++ [x] := by rw [List.take_add_one, hx]; rfl
          have hba : Below wr.heap.size wr (wr.alloc (.cells #[.int .u32 x.id, .int .i64 x.units, .int .i64 x.exp, .int .i64 x.day, .int .i64 x.month] 31)) := (Below.refl _ _).alloc (Nat.le_refl _) _
          have hd := ldrop_any p b1 b2 (-1) (dels now t (G.take j)) was t x.id ht (HOK.out x (List.mem_of_getElem? hx)) _ last _ (MM.out.below hba) (dels_nd _ _ HN.out) (D0.out j)
          rw [D1.out j x hx, ← dels_snoc, ← htk] at hd
          unfold sV pV at hd
          have HD := Lib.hid hd
          have HBA := Lib.hid hba
          clear hd htk hba hx
          go_wp2_with fail
          refine HD.out.mono ?_
          rintro e w3 ⟨rfl, h5, h6⟩
          have MM3 := Lib.hid h5
          have KA := (Keep.ofBelow HBA.out (fun i => i = b1)).trans h6 (fun i hi => .inl hi)
          have KK3 := Lib.hid (KK.out.trans KA (fun i hi => .inl hi))
          have QQ3 := Lib.hid (KA.blk QQ.out (fun e => by omega))
          have RR3 := Lib.hid (RR.out.mem MM.out.now KA)
          clear h5 h6 KA HD
          go_wp2_with fail
          go_roundw
          case rel => exact ⟨j + 1, by omega, by go_num, MM3, KK3, QQ3, RR3⟩
          case measure => simp [intOf]; omega
        · obtain rfl : j = G.length := by omega
          rw [List.take_length] at MM
          have HSW := Lib.hid (HLS.out.swept HN.out ht m)
          rw [← HG2.out] at HSW
          have hl0 := HLS.out.lst
          have iG : ¬ ((G.length : Int) < (G.length : Int)) := by omega
          have h0 := ht.1
          have h1 := ht.2
          have tw : IntKind.u64.wrap t = t := by rw [IntKind.wrap_u64]; omega
          have lw : IntKind.u64.wrap (last + 1) = last + 1 := by rw [IntKind.wrap_u64]; omega
          have lw2 : IntKind.u32.wrap (last + 1) = last + 1 := by rw [IntKind.wrap_u32]; omega
          have HSM := Lib.hid HSm.out
          clear D0 D1 HGL HG2 HSm
          go_wp2_with fail
          refine (key_any 109 (by decide) (by decide) _ [t] _ (US.lit1 _ t h0 (by omega) _) (by simp)).mono ?_
          rintro e w4 ⟨v4, rfl, ho, hb⟩
          have hb4 := below_and ((Below.refl wr.heap.size wr).alloc (Nat.le_refl _) _) hb
          have MM4 := Lib.hid (MM.out.below hb4)
          have KK4 := Lib.hid (KK.out.trans (Keep.ofBelow hb4 (fun i => i = b1)) (fun i hi => .inl hi))
          have QQ4 := Lib.hid ((Keep.ofBelow hb4 (fun _ => False)).blk QQ.out (fun h => h))
          have hcn := number_any p (-1) b1 b2 (dels now t G) was v4 (mk t) w4 MM4.out ho.bs (fun v hv => by
            rw [HSW.out.num] at hv
            by_cases hz : last = 0
            · rw [if_pos hz] at hv; cases hv
            · rw [if_neg hz] at hv; cases hv; rw [show (be8 last).size = 8 from be_size _ 8]; omega)
          rw [HSW.out.num, (num_last hl0 (by omega)).1, (num_last hl0 (by omega)).2] at hcn
          unfold sV pV at hcn
          have HCN := Lib.hid hcn
          clear ho hb hb4 hcn MM KK QQ RR
          go_wp2_with fail
          refine HCN.out.mono ?_
          rintro e w5 ⟨rfl, hb⟩
          have MM5 := Lib.hid (MM4.out.below hb)
          have KK5 := Lib.hid (KK4.out.trans (Keep.ofBelow hb (fun i => i = b1)) (fun i hi => .inl hi))
          have q5 := (Keep.ofBelow hb (fun _ => False)).blk QQ4.out (fun h => h)
          have c0 := blk_cell q5 0
          have f0 := blk_frozen q5 0
          have QQ5 := Lib.hid q5
          clear hb q5 MM4 KK4 QQ4 HCN
          go_upto_region 22 with fail
          obtain ⟨W6, hW6⟩ : ∃ W6, W6 = w5.setCell ⟨w.heap.size, 0, none⟩ (.int .u32 (last + 1)) := ⟨_, rfl⟩
          rw [← hW6]
          have hk6 : Keep (fun i => i = w.heap.size) w5 W6 := by rw [hW6]; exact (Keep.refl (fun i => i = w.heap.size) w5).setCell (p := ⟨w.heap.size, 0, none⟩) (.inl rfl) _
          have q6 : W6.heap[w.heap.size]? = some (.cells #[.int .u32 (last + 1), .int .i64 un, .int .i64 ex, .int .i64 dy, .int .i64 mo] 31 (0, 0)) := by rw [hW6]; exact blk_setCell QQ5.out 0 _
          have MM6 := Lib.hid (show MemIs W6.drew p (-1) b1 b2 (dels now t G) was from (MM5.out.keep hk6 (by omega) (by omega) (by omega)).below ((Below.refl _ _).drew))
          have KK6 := Lib.hid (show Keep (fun i => i = b1) w W6.drew from (KK5.out.trans hk6 (fun i hi => .inr (by omega))).drew)
          have QQ6 := Lib.hid (show W6.drew.heap[w.heap.size]? = some (.cells #[.int .u32 (last + 1), .int .i64 un, .int .i64 ex, .int .i64 dy, .int .i64 mo] 31 (0, 0)) from q6)
          have CC := Lib.hid fun (W : World) (hg : W.heap[w.heap.size]? = some (.cells #[.int .u32 (last + 1), .int .i64 un, .int .i64 ex, .int .i64 dy, .int .i64 mo] 31 (0, 0))) => show (W.cell? ⟨w.heap.size, 0, none⟩ = some (.int .u32 (last + 1)) ∧ W.cell? ⟨w.heap.size, 1, none⟩ = some (.int .i64 un) ∧ W.cell? ⟨w.heap.size, 2, none⟩ = some (.int .i64 ex) ∧ W.cell? ⟨w.heap.size, 3, none⟩ = some (.int .i64 dy) ∧ W.cell? ⟨w.heap.size, 4, none⟩ = some (.int .i64 mo)) by
            refine ⟨?_, ?_, ?_, ?_, ?_⟩ <;> rw [blk_cell hg] <;> rfl
          have hok9 : Ls.Ok ⟨last + 1, un, ex, dy, mo⟩ := ⟨⟨by show 0 ≤ last + 1; omega, hi⟩, HLO.out.units, HLO.out.exp, HLO.out.day, HLO.out.month⟩
          have hlen9 : (dels now t G).length ≤ 9223372036854775807 := Nat.le_trans (dels_len t G now) (Nat.le_trans HSM.out.1 (by omega))
          have HLK := Lib.hid fun (W : World) => lkey_any t (last + 1) ht ⟨by omega, hi⟩ W
          have HPL := Lib.hid fun (W : World) => put_lease ⟨last + 1, un, ex, dy, mo⟩ hok9 W
          unfold Ls.val at HPL
          have na := nil_put p
          obtain ⟨pe, pa⟩ := put_lk (dels now t G) t (last + 1) (Ls.enc ⟨last + 1, un, ex, dy, mo⟩) (by rw [Ls.enc_size]; omega)
          have hpt := fun (W : World) (k v : Value) (h1 : MemIs W p (-1) b1 b2 (dels now t G) was) (h2 : BS W k (lk t (last + 1))) (h3 : BS W v (Ls.enc ⟨last + 1, un, ex, dy, mo⟩)) => put_any p (-1) b1 b2 (dels now t G) was k v _ _ W h1 h2 h3 hlen9
          rw [pe, pa] at hpt
          unfold pV at hpt
          have HPT := Lib.hid hpt
          clear hW6 hk6 q6 MM5 KK5 QQ5 hpt pe pa hlen9 hok9 c0 f0
          refine wp_region_held_drew (S := (fun w' => w'.cell? ⟨w.heap.size, 0, none⟩ = some (.int .u32 (last + 1)) ∧ w'.cell? ⟨w.heap.size, 1, none⟩ = some (.int .i64 un) ∧ w'.cell? ⟨w.heap.size, 2, none⟩ = some (.int .i64 ex) ∧ w'.cell? ⟨w.heap.size, 3, none⟩ = some (.int .i64 dy) ∧ w'.cell? ⟨w.heap.size, 4, none⟩ = some (.int .i64 mo))) (by kernel_rfl) ?_ (fun hHeld0 => ?_)
          · (try dsimp only)
            first | with_reducible exact CC.out _ QQ9.out | with_reducible exact CC.out _ QQ8.out | with_reducible exact CC.out _ QQ7.out | with_reducible exact CC.out _ QQ6.out
          refine takeN (v := ?_) 0 rfl (by kernel_rfl) (by kernel_rfl) (by kernel_rfl) (fun _ _ _ h => h) (by rfl) ?_ hHeld0 ?_
          rotate_left
          · intro w hSw; (try dsimp only at hSw); go_simp; with_reducible rfl
          try simp only [Act.put, List.setIfInBounds_toArray, List.set_cons_zero, List.set_cons_succ]
          refine takeN (v := ?_) 1 rfl (by kernel_rfl) (by kernel_rfl) (by kernel_rfl) (fun _ _ _ h => h) (by rfl) ?_ hHeld0 ?_
          rotate_left
          · intro w hSw; (try dsimp only at hSw); go_simp; with_reducible rfl
          try simp only [Act.put, List.setIfInBounds_toArray, List.set_cons_zero, List.set_cons_succ]
          refine takeN (v := ?_) 2 rfl (by kernel_rfl) (by kernel_rfl) (by kernel_rfl) (fun _ _ _ h => h) (by rfl) ?_ hHeld0 ?_
          rotate_left
          · intro w hSw; (try dsimp only at hSw); go_simp; with_reducible rfl
          try simp only [Act.put, List.setIfInBounds_toArray, List.set_cons_zero, List.set_cons_succ]
          refine takeN (v := ?_) 3 rfl (by kernel_rfl) (by kernel_rfl) (by kernel_rfl) (fun _ _ _ h => h) (by rfl) ?_ hHeld0 ?_
          rotate_left
          · intro w hSw; (try dsimp only at hSw); go_simp; with_reducible rfl
          try simp only [Act.put, List.setIfInBounds_toArray, List.set_cons_zero, List.set_cons_succ]
          refine takeN (v := ?_) 5 rfl (by kernel_rfl) (by kernel_rfl) (by kernel_rfl) (fun _ _ _ h => h) (by rfl) ?_ hHeld0 ?_
          rotate_left
          · intro w hSw; (try dsimp only at hSw); go_simp; with_reducible rfl
          try simp only [Act.put, List.setIfInBounds_toArray, List.set_cons_zero, List.set_cons_succ]
          refine wpAnyH_ready (rs := [4, 7]) (by kernel_rfl) (by simp) ?_
          refine readyN rfl (fun K hK => ?_) ?_
          · -- operation 4
            go_simp
            first
              | (go_at_call 26; refine (HLK.out _).mono ?_; rintro e w7 ⟨v7, rfl, ho, hb⟩
                 have MM7 := Lib.hid (MM6.out.below hb)
                 have KK7 := Lib.hid (KK6.out.trans (Keep.ofBelow hb (fun i => i = b1)) (fun i hi => .inl hi))
                 have QQ7 := Lib.hid ((Keep.ofBelow hb (fun _ => False)).blk QQ6.out (fun h => h))
                 have OK7 := Lib.hid ho.bs
                 clear ho hb HLK)
              | (go_at_call 27; refine (HPL.out _).mono ?_; rintro e w8 ⟨v8, rfl, ho, hb⟩
                 have MM8 := Lib.hid (MM7.out.below hb)
                 have KK8 := Lib.hid (KK7.out.trans (Keep.ofBelow hb (fun i => i = b1)) (fun i hi => .inl hi))
                 have QQ8 := Lib.hid ((Keep.ofBelow hb (fun _ => False)).blk QQ7.out (fun h => h))
                 have OK8 := Lib.hid (OK7.out.below hb)
                 have OP8 := Lib.hid ho
                 clear ho hb HPL)
              | (go_at_call 96; refine (HPT.out _ _ _ MM8.out OK8.out OP8.out).mono ?_; rintro e w9 ⟨rfl, h5, h6⟩
                 have MM9 := Lib.hid h5
                 have KK9 := Lib.hid (KK8.out.trans h6 (fun i hi => .inl hi))
                 have QQ9 := Lib.hid (h6.blk QQ8.out (fun e => by omega))
                 clear h5 h6)
            go_wp2_with fail
            refine hK.out _ _ ?_ (fun hHeld1 => ?_)
            · (try dsimp only)
              first | with_reducible exact CC.out _ QQ9.out | with_reducible exact CC.out _ QQ8.out | with_reducible exact CC.out _ QQ7.out | with_reducible exact CC.out _ QQ6.out
            clear hK K hHeld0
            try simp only [Act.put, List.setIfInBounds_toArray, List.set_cons_zero, List.set_cons_succ]
            refine wpAnyH_ready (rs := [6, 7]) (by kernel_rfl) (by simp) ?_
            refine readyN rfl (fun K hK => ?_) ?_
            · -- operation 6
              go_simp
              first
                | (go_at_call 26; refine (HLK.out _).mono ?_; rintro e w7 ⟨v7, rfl, ho, hb⟩
                   have MM7 := Lib.hid (MM6.out.below hb)
                   have KK7 := Lib.hid (KK6.out.trans (Keep.ofBelow hb (fun i => i = b1)) (fun i hi => .inl hi))
                   have QQ7 := Lib.hid ((Keep.ofBelow hb (fun _ => False)).blk QQ6.out (fun h => h))
                   have OK7 := Lib.hid ho.bs
                   clear ho hb HLK)
                | (go_at_call 27; refine (HPL.out _).mono ?_; rintro e w8 ⟨v8, rfl, ho, hb⟩
                   have MM8 := Lib.hid (MM7.out.below hb)
                   have KK8 := Lib.hid (KK7.out.trans (Keep.ofBelow hb (fun i => i = b1)) (fun i hi => .inl hi))
                   have QQ8 := Lib.hid ((Keep.ofBelow hb (fun _ => False)).blk QQ7.out (fun h => h))
                   have OK8 := Lib.hid (OK7.out.below hb)
                   have OP8 := Lib.hid ho
                   clear ho hb HPL)
                | (go_at_call 96; refine (HPT.out _ _ _ MM8.out OK8.out OP8.out).mono ?_; rintro e w9 ⟨rfl, h5, h6⟩
                   have MM9 := Lib.hid h5
                   have KK9 := Lib.hid (KK8.out.trans h6 (fun i hi => .inl hi))
                   have QQ9 := Lib.hid (h6.blk QQ8.out (fun e => by omega))
                   clear h5 h6)
              go_wp2_with fail
              refine hK.out _ _ ?_ (fun hHeld2 => ?_)
              · (try dsimp only)
                first | with_reducible exact CC.out _ QQ9.out | with_reducible exact CC.out _ QQ8.out | with_reducible exact CC.out _ QQ7.out | with_reducible exact CC.out _ QQ6.out
              clear hK K hHeld1
              try simp only [Act.put, List.setIfInBounds_toArray, List.set_cons_zero, List.set_cons_succ]
              refine wpAnyH_ready (rs := [7]) (by kernel_rfl) (by simp) ?_
              refine readyN rfl (fun K hK => ?_) ?_
              · -- operation 7
                go_simp
                refine hK.out _ _ ?_ (fun hHeld3 => ?_)
                · (try dsimp only)
                  first | with_reducible exact CC.out _ QQ9.out | with_reducible exact CC.out _ QQ8.out | with_reducible exact CC.out _ QQ7.out | with_reducible exact CC.out _ QQ6.out
                clear hK K hHeld2
                try simp only [Act.put, List.setIfInBounds_toArray, List.set_cons_zero, List.set_cons_succ]
                refine takeN (v := ?_) 8 rfl (by kernel_rfl) (by kernel_rfl) (by kernel_rfl) (fun _ _ _ h => h) (by rfl) ?_ hHeld3 ?_
                rotate_left
                · intro w hSw; (try dsimp only at hSw); go_simp; with_reducible rfl
                try simp only [Act.put, List.setIfInBounds_toArray, List.set_cons_zero, List.set_cons_succ]
                refine takeN (v := ?_) 9 rfl (by kernel_rfl) (by kernel_rfl) (by kernel_rfl) (fun _ _ _ h => h) (by rfl) ?_ hHeld3 ?_
                rotate_left
                · intro w hSw; (try dsimp only at hSw); go_simp; with_reducible rfl
                try simp only [Act.put, List.setIfInBounds_toArray, List.set_cons_zero, List.set_cons_succ]
                refine wpAnyH_ready (rs := [10]) (by kernel_rfl) (by simp) ?_
                refine readyN rfl (fun K hK => ?_) ?_
                · -- operation 10
                  go_simp
                  go_wp2_with (
                      first
                        | (go_at_call 26; refine (HLK.out _).mono ?_; rintro e w7 ⟨v7, rfl, ho, hb⟩
                           have MM7 := Lib.hid (MM6.out.below hb)
                           have KK7 := Lib.hid (KK6.out.trans (Keep.ofBelow hb (fun i => i = b1)) (fun i hi => .inl hi))
                           have QQ7 := Lib.hid ((Keep.ofBelow hb (fun _ => False)).blk QQ6.out (fun h => h))
                           have OK7 := Lib.hid ho.bs
                           clear ho hb HLK)
                        | (go_at_call 27; refine (HPL.out _).mono ?_; rintro e w8 ⟨v8, rfl, ho, hb⟩
                           have MM8 := Lib.hid (MM7.out.below hb)
                           have KK8 := Lib.hid (KK7.out.trans (Keep.ofBelow hb (fun i => i = b1)) (fun i hi => .inl hi))
                           have QQ8 := Lib.hid ((Keep.ofBelow hb (fun _ => False)).blk QQ7.out (fun h => h))
                           have OK8 := Lib.hid (OK7.out.below hb)
                           have OP8 := Lib.hid ho
                           clear ho hb HPL)
                        | (go_at_call 96; refine (HPT.out _ _ _ MM8.out OK8.out OP8.out).mono ?_; rintro e w9 ⟨rfl, h5, h6⟩
                           have MM9 := Lib.hid h5
                           have KK9 := Lib.hid (KK8.out.trans h6 (fun i hi => .inl hi))
                           have QQ9 := Lib.hid (h6.blk QQ8.out (fun e => by omega))
                           clear h5 h6))
                  refine hK.out _ _ ?_ (fun hHeld4 => ?_)
                  · (try dsimp only)
                    first | with_reducible exact CC.out _ QQ9.out | with_reducible exact CC.out _ QQ8.out | with_reducible exact CC.out _ QQ7.out | with_reducible exact CC.out _ QQ6.out
                  clear hK K hHeld3
                  try simp only [Act.put, List.setIfInBounds_toArray, List.set_cons_zero, List.set_cons_succ]
                  refine takeN (v := ?_) 11 rfl (by kernel_rfl) (by kernel_rfl) (by kernel_rfl) (fun _ _ _ h => h) (by rfl) ?_ hHeld4 ?_
                  rotate_left
                  · intro w hSw; (try dsimp only at hSw); go_simp; with_reducible rfl
                  try simp only [Act.put, List.setIfInBounds_toArray, List.set_cons_zero, List.set_cons_succ]
                  refine wpAnyH_done (by kernel_rfl) ?_ _
                  clear MM6 MM7 MM8 KK6 KK7 KK8 QQ6 QQ7 QQ8 OK7 OK8 OP8 HPT
                  go_wp2_with fail
                  refine (key_any 109 (by decide) (by decide) _ [t] _ (US.lit1 _ t h0 (by omega) _) (by simp)).mono ?_
                  rintro e wa ⟨va, rfl, ho, hb⟩
                  have hba := below_and ((Below.refl w9.heap.size w9).alloc (Nat.le_refl _) _) hb
                  have MMa := Lib.hid (MM9.out.below hba)
                  have KKa := Lib.hid (KK9.out.trans (Keep.ofBelow hba (fun i => i = b1)) (fun i hi => .inl hi))
                  have QQa := Lib.hid ((Keep.ofBelow hba (fun _ => False)).blk QQ9.out (fun h => h))
                  have hst := set_any p (-1) b1 b2 (AL.put (lk t (last + 1)) (Ls.enc ⟨last + 1, un, ex, dy, mo⟩) (dels now t G)) was va (mk t) (last + 1) (by omega) (by omega) wa MMa.out ho.bs (Nat.le_trans (put_length _ _ _) (Nat.le_trans (Nat.add_le_add_right (Nat.le_trans (dels_len t G now) HSM.out.1) 1) (by omega)))
                  rw [(put_mk _ t (last + 1) (by omega)).1, (put_mk _ t (last + 1) (by omega)).2] at hst
                  unfold sV pV at hst
                  have HST := Lib.hid hst
                  clear ho hb hba hst MM9 KK9 QQ9
                  go_wp2_with fail
                  refine HST.out.mono ?_
                  rintro e wb ⟨rfl, h5, h6⟩
                  have MMb := Lib.hid h5
                  have KKb := Lib.hid (KKa.out.trans h6 (fun i hi => .inl hi))
                  have ce := blk_cell (h6.blk QQa.out (fun e => by omega)) 0
                  clear h5 h6 HST MMa KKa QQa
                  go_wp2
                  go_ret2
                  exact ⟨rfl, by rw [HS2.out]; exact MMb.out, KKb.out⟩
                exact AllReadyH.nil
              exact AllReadyH.nil
            refine readyN rfl (fun K hK => ?_) ?_
            · -- operation 7
              go_simp
              refine hK.out _ _ ?_ (fun hHeld2 => ?_)
              · (try dsimp only)
                first | with_reducible exact CC.out _ QQ9.out | with_reducible exact CC.out _ QQ8.out | with_reducible exact CC.out _ QQ7.out | with_reducible exact CC.out _ QQ6.out
              clear hK K hHeld1
              try simp only [Act.put, List.setIfInBounds_toArray, List.set_cons_zero, List.set_cons_succ]
              refine takeN (v := ?_) 8 rfl (by kernel_rfl) (by kernel_rfl) (by kernel_rfl) (fun _ _ _ h => h) (by rfl) ?_ hHeld2 ?_
              rotate_left
              · intro w hSw; (try dsimp only at hSw); go_simp; with_reducible rfl
              try simp only [Act.put, List.setIfInBounds_toArray, List.set_cons_zero, List.set_cons_succ]
              refine takeN (v := ?_) 9 rfl (by kernel_rfl) (by kernel_rfl) (by kernel_rfl) (fun _ _ _ h => h) (by rfl) ?_ hHeld2 ?_
              rotate_left
              · intro w hSw; (try dsimp only at hSw); go_simp; with_reducible rfl
              try simp only [Act.put, List.setIfInBounds_toArray, List.set_cons_zero, List.set_cons_succ]
              refine wpAnyH_ready (rs := [6]) (by kernel_rfl) (by simp) ?_
              refine readyN rfl (fun K hK => ?_) ?_
              · -- operation 6
                go_simp
                first
                  | (go_at_call 26; refine (HLK.out _).mono ?_; rintro e w7 ⟨v7, rfl, ho, hb⟩
                     have MM7 := Lib.hid (MM6.out.below hb)
                     have KK7 := Lib.hid (KK6.out.trans (Keep.ofBelow hb (fun i => i = b1)) (fun i hi => .inl hi))
                     have QQ7 := Lib.hid ((Keep.ofBelow hb (fun _ => False)).blk QQ6.out (fun h => h))
                     have OK7 := Lib.hid ho.bs
                     clear ho hb HLK)
                  | (go_at_call 27; refine (HPL.out _).mono ?_; rintro e w8 ⟨v8, rfl, ho, hb⟩
                     have MM8 := Lib.hid (MM7.out.below hb)
                     have KK8 := Lib.hid (KK7.out.trans (Keep.ofBelow hb (fun i => i = b1)) (fun i hi => .inl hi))
                     have QQ8 := Lib.hid ((Keep.ofBelow hb (fun _ => False)).blk QQ7.out (fun h => h))
                     have OK8 := Lib.hid (OK7.out.below hb)
                     have OP8 := Lib.hid ho
                     clear ho hb HPL)
                  | (go_at_call 96; refine (HPT.out _ _ _ MM8.out OK8.out OP8.out).mono ?_; rintro e w9 ⟨rfl, h5, h6⟩
                     have MM9 := Lib.hid h5
                     have KK9 := Lib.hid (KK8.out.trans h6 (fun i hi => .inl hi))
                     have QQ9 := Lib.hid (h6.blk QQ8.out (fun e => by omega))
                     clear h5 h6)
                go_wp2_with fail
                refine hK.out _ _ ?_ (fun hHeld3 => ?_)
                · (try dsimp only)
                  first | with_reducible exact CC.out _ QQ9.out | with_reducible exact CC.out _ QQ8.out | with_reducible exact CC.out _ QQ7.out | with_reducible exact CC.out _ QQ6.out
                clear hK K hHeld2
                try simp only [Act.put, List.setIfInBounds_toArray, List.set_cons_zero, List.set_cons_succ]
                refine wpAnyH_ready (rs := [10]) (by kernel_rfl) (by simp) ?_
                refine readyN rfl (fun K hK => ?_) ?_
                · -- operation 10
                  go_simp
                  go_wp2_with (
                      first
                        | (go_at_call 26; refine (HLK.out _).mono ?_; rintro e w7 ⟨v7, rfl, ho, hb⟩
                           have MM7 := Lib.hid (MM6.out.below hb)
                           have KK7 := Lib.hid (KK6.out.trans (Keep.ofBelow hb (fun i => i = b1)) (fun i hi => .inl hi))
                           have QQ7 := Lib.hid ((Keep.ofBelow hb (fun _ => False)).blk QQ6.out (fun h => h))
                           have OK7 := Lib.hid ho.bs
                           clear ho hb HLK)
                        | (go_at_call 27; refine (HPL.out _).mono ?_; rintro e w8 ⟨v8, rfl, ho, hb⟩
                           have MM8 := Lib.hid (MM7.out.below hb)
                           have KK8 := Lib.hid (KK7.out.trans (Keep.ofBelow hb (fun i => i = b1)) (fun i hi => .inl hi))
                           have QQ8 := Lib.hid ((Keep.ofBelow hb (fun _ => False)).blk QQ7.out (fun h => h))
                           have OK8 := Lib.hid (OK7.out.below hb)
                           have OP8 := Lib.hid ho
                           clear ho hb HPL)
                        | (go_at_call 96; refine (HPT.out _ _ _ MM8.out OK8.out OP8.out).mono ?_; rintro e w9 ⟨rfl, h5, h6⟩
                           have MM9 := Lib.hid h5
                           have KK9 := Lib.hid (KK8.out.trans h6 (fun i hi => .inl hi))
                           have QQ9 := Lib.hid (h6.blk QQ8.out (fun e => by omega))
                           clear h5 h6))
                  refine hK.out _ _ ?_ (fun hHeld4 => ?_)
                  · (try dsimp only)
                    first | with_reducible exact CC.out _ QQ9.out | with_reducible exact CC.out _ QQ8.out | with_reducible exact CC.out _ QQ7.out | with_reducible exact CC.out _ QQ6.out
                  clear hK K hHeld3
                  try simp only [Act.put, List.setIfInBounds_toArray, List.set_cons_zero, List.set_cons_succ]
                  refine takeN (v := ?_) 11 rfl (by kernel_rfl) (by kernel_rfl) (by kernel_rfl) (fun _ _ _ h => h) (by rfl) ?_ hHeld4 ?_
                  rotate_left
                  · intro w hSw; (try dsimp only at hSw); go_simp; with_reducible rfl
                  try simp only [Act.put, List.setIfInBounds_toArray, List.set_cons_zero, List.set_cons_succ]
                  refine wpAnyH_done (by kernel_rfl) ?_ _
                  clear MM6 MM7 MM8 KK6 KK7 KK8 QQ6 QQ7 QQ8 OK7 OK8 OP8 HPT
                  go_wp2_with fail
                  refine (key_any 109 (by decide) (by decide) _ [t] _ (US.lit1 _ t h0 (by omega) _) (by simp)).mono ?_
                  rintro e wa ⟨va, rfl, ho, hb⟩
                  have hba := below_and ((Below.refl w9.heap.size w9).alloc (Nat.le_refl _) _) hb
                  have MMa := Lib.hid (MM9.out.below hba)
                  have KKa := Lib.hid (KK9.out.trans (Keep.ofBelow hba (fun i => i = b1)) (fun i hi => .inl hi))
                  have QQa := Lib.hid ((Keep.ofBelow hba (fun _ => False)).blk QQ9.out (fun h => h))
                  have hst := set_any p (-1) b1 b2 (AL.put (lk t (last + 1)) (Ls.enc ⟨last + 1, un, ex, dy, mo⟩) (dels now t G)) was va (mk t) (last + 1) (by omega) (by omega) wa MMa.out ho.bs (Nat.le_trans (put_length _ _ _) (Nat.le_trans (Nat.add_le_add_right (Nat.le_trans (dels_len t G now) HSM.out.1) 1) (by omega)))
                  rw [(put_mk _ t (last + 1) (by omega)).1, (put_mk _ t (last + 1) (by omega)).2] at hst
                  unfold sV pV at hst
                  have HST := Lib.hid hst
                  clear ho hb hba hst MM9 KK9 QQ9
                  go_wp2_with fail
                  refine HST.out.mono ?_
                  rintro e wb ⟨rfl, h5, h6⟩
                  have MMb := Lib.hid h5
                  have KKb := Lib.hid (KKa.out.trans h6 (fun i hi => .inl hi))
                  have ce := blk_cell (h6.blk QQa.out (fun e => by omega)) 0
                  clear h5 h6 HST MMa KKa QQa
                  go_wp2
                  go_ret2
                  exact ⟨rfl, by rw [HS2.out]; exact MMb.out, KKb.out⟩
                exact AllReadyH.nil
              exact AllReadyH.nil
            exact AllReadyH.nil
          refine readyN rfl (fun K hK => ?_) ?_
          · -- operation 7
            go_simp
            refine hK.out _ _ ?_ (fun hHeld1 => ?_)
            · (try dsimp only)
              first | with_reducible exact CC.out _ QQ9.out | with_reducible exact CC.out _ QQ8.out | with_reducible exact CC.out _ QQ7.out | with_reducible exact CC.out _ QQ6.out
            clear hK K hHeld0
            try simp only [Act.put, List.setIfInBounds_toArray, List.set_cons_zero, List.set_cons_succ]
            refine takeN (v := ?_) 8 rfl (by kernel_rfl) (by kernel_rfl) (by kernel_rfl) (fun _ _ _ h => h) (by rfl) ?_ hHeld1 ?_
            rotate_left
            · intro w hSw; (try dsimp only at hSw); go_simp; with_reducible rfl
            try simp only [Act.put, List.setIfInBounds_toArray, List.set_cons_zero, List.set_cons_succ]
            refine takeN (v := ?_) 9 rfl (by kernel_rfl) (by kernel_rfl) (by kernel_rfl) (fun _ _ _ h => h) (by rfl) ?_ hHeld1 ?_
            rotate_left
            · intro w hSw; (try dsimp only at hSw); go_simp; with_reducible rfl
            try simp only [Act.put, List.setIfInBounds_toArray, List.set_cons_zero, List.set_cons_succ]
            refine wpAnyH_ready (rs := [4]) (by kernel_rfl) (by simp) ?_
            refine readyN rfl (fun K hK => ?_) ?_
            · -- operation 4
              go_simp
              first
                | (go_at_call 26; refine (HLK.out _).mono ?_; rintro e w7 ⟨v7, rfl, ho, hb⟩
                   have MM7 := Lib.hid (MM6.out.below hb)
                   have KK7 := Lib.hid (KK6.out.trans (Keep.ofBelow hb (fun i => i = b1)) (fun i hi => .inl hi))
                   have QQ7 := Lib.hid ((Keep.ofBelow hb (fun _ => False)).blk QQ6.out (fun h => h))
                   have OK7 := Lib.hid ho.bs
                   clear ho hb HLK)
                | (go_at_call 27; refine (HPL.out _).mono ?_; rintro e w8 ⟨v8, rfl, ho, hb⟩
                   have MM8 := Lib.hid (MM7.out.below hb)
                   have KK8 := Lib.hid (KK7.out.trans (Keep.ofBelow hb (fun i => i = b1)) (fun i hi => .inl hi))
                   have QQ8 := Lib.hid ((Keep.ofBelow hb (fun _ => False)).blk QQ7.out (fun h => h))
                   have OK8 := Lib.hid (OK7.out.below hb)
                   have OP8 := Lib.hid ho
                   clear ho hb HPL)
                | (go_at_call 96; refine (HPT.out _ _ _ MM8.out OK8.out OP8.out).mono ?_; rintro e w9 ⟨rfl, h5, h6⟩
                   have MM9 := Lib.hid h5
                   have KK9 := Lib.hid (KK8.out.trans h6 (fun i hi => .inl hi))
                   have QQ9 := Lib.hid (h6.blk QQ8.out (fun e => by omega))
                   clear h5 h6)
              go_wp2_with fail
              refine hK.out _ _ ?_ (fun hHeld2 => ?_)
              · (try dsimp only)
                first | with_reducible exact CC.out _ QQ9.out | with_reducible exact CC.out _ QQ8.out | with_reducible exact CC.out _ QQ7.out | with_reducible exact CC.out _ QQ6.out
              clear hK K hHeld1
              try simp only [Act.put, List.setIfInBounds_toArray, List.set_cons_zero, List.set_cons_succ]
              refine wpAnyH_ready (rs := [6]) (by kernel_rfl) (by simp) ?_
              refine readyN rfl (fun K hK => ?_) ?_
              · -- operation 6
                go_simp
                first
                  | (go_at_call 26; refine (HLK.out _).mono ?_; rintro e w7 ⟨v7, rfl, ho, hb⟩
                     have MM7 := Lib.hid (MM6.out.below hb)
                     have KK7 := Lib.hid (KK6.out.trans (Keep.ofBelow hb (fun i => i = b1)) (fun i hi => .inl hi))
                     have QQ7 := Lib.hid ((Keep.ofBelow hb (fun _ => False)).blk QQ6.out (fun h => h))
                     have OK7 := Lib.hid ho.bs
                     clear ho hb HLK)
                  | (go_at_call 27; refine (HPL.out _).mono ?_; rintro e w8 ⟨v8, rfl, ho, hb⟩
                     have MM8 := Lib.hid (MM7.out.below hb)
                     have KK8 := Lib.hid (KK7.out.trans (Keep.ofBelow hb (fun i => i = b1)) (fun i hi => .inl hi))
                     have QQ8 := Lib.hid ((Keep.ofBelow hb (fun _ => False)).blk QQ7.out (fun h => h))
                     have OK8 := Lib.hid (OK7.out.below hb)
                     have OP8 := Lib.hid ho
                     clear ho hb HPL)
                  | (go_at_call 96; refine (HPT.out _ _ _ MM8.out OK8.out OP8.out).mono ?_; rintro e w9 ⟨rfl, h5, h6⟩
                     have MM9 := Lib.hid h5
                     have KK9 := Lib.hid (KK8.out.trans h6 (fun i hi => .inl hi))
                     have QQ9 := Lib.hid (h6.blk QQ8.out (fun e => by omega))
                     clear h5 h6)
                go_wp2_with fail
                refine hK.out _ _ ?_ (fun hHeld3 => ?_)
                · (try dsimp only)
                  first | with_reducible exact CC.out _ QQ9.out | with_reducible exact CC.out _ QQ8.out | with_reducible exact CC.out _ QQ7.out | with_reducible exact CC.out _ QQ6.out
                clear hK K hHeld2
                try simp only [Act.put, List.setIfInBounds_toArray, List.set_cons_zero, List.set_cons_succ]
                refine wpAnyH_ready (rs := [10]) (by kernel_rfl) (by simp) ?_
                refine readyN rfl (fun K hK => ?_) ?_
                · -- operation 10
                  go_simp
                  go_wp2_with (
                      first
                        | (go_at_call 26; refine (HLK.out _).mono ?_; rintro e w7 ⟨v7, rfl, ho, hb⟩
                           have MM7 := Lib.hid (MM6.out.below hb)
                           have KK7 := Lib.hid (KK6.out.trans (Keep.ofBelow hb (fun i => i = b1)) (fun i hi => .inl hi))
                           have QQ7 := Lib.hid ((Keep.ofBelow hb (fun _ => False)).blk QQ6.out (fun h => h))
                           have OK7 := Lib.hid ho.bs
                           clear ho hb HLK)
                        | (go_at_call 27; refine (HPL.out _).mono ?_; rintro e w8 ⟨v8, rfl, ho, hb⟩
                           have MM8 := Lib.hid (MM7.out.below hb)
                           have KK8 := Lib.hid (KK7.out.trans (Keep.ofBelow hb (fun i => i = b1)) (fun i hi => .inl hi))
                           have QQ8 := Lib.hid ((Keep.ofBelow hb (fun _ => False)).blk QQ7.out (fun h => h))
                           have OK8 := Lib.hid (OK7.out.below hb)
                           have OP8 := Lib.hid ho
                           clear ho hb HPL)
                        | (go_at_call 96; refine (HPT.out _ _ _ MM8.out OK8.out OP8.out).mono ?_; rintro e w9 ⟨rfl, h5, h6⟩
                           have MM9 := Lib.hid h5
                           have KK9 := Lib.hid (KK8.out.trans h6 (fun i hi => .inl hi))
                           have QQ9 := Lib.hid (h6.blk QQ8.out (fun e => by omega))
                           clear h5 h6))
                  refine hK.out _ _ ?_ (fun hHeld4 => ?_)
                  · (try dsimp only)
                    first | with_reducible exact CC.out _ QQ9.out | with_reducible exact CC.out _ QQ8.out | with_reducible exact CC.out _ QQ7.out | with_reducible exact CC.out _ QQ6.out
                  clear hK K hHeld3
                  try simp only [Act.put, List.setIfInBounds_toArray, List.set_cons_zero, List.set_cons_succ]
                  refine takeN (v := ?_) 11 rfl (by kernel_rfl) (by kernel_rfl) (by kernel_rfl) (fun _ _ _ h => h) (by rfl) ?_ hHeld4 ?_
                  rotate_left
                  · intro w hSw; (try dsimp only at hSw); go_simp; with_reducible rfl
                  try simp only [Act.put, List.setIfInBounds_toArray, List.set_cons_zero, List.set_cons_succ]
                  refine wpAnyH_done (by kernel_rfl) ?_ _
                  clear MM6 MM7 MM8 KK6 KK7 KK8 QQ6 QQ7 QQ8 OK7 OK8 OP8 HPT
                  go_wp2_with fail
                  refine (key_any 109 (by decide) (by decide) _ [t] _ (US.lit1 _ t h0 (by omega) _) (by simp)).mono ?_
                  rintro e wa ⟨va, rfl, ho, hb⟩
                  have hba := below_and ((Below.refl w9.heap.size w9).alloc (Nat.le_refl _) _) hb
                  have MMa := Lib.hid (MM9.out.below hba)
                  have KKa := Lib.hid (KK9.out.trans (Keep.ofBelow hba (fun i => i = b1)) (fun i hi => .inl hi))
                  have QQa := Lib.hid ((Keep.ofBelow hba (fun _ => False)).blk QQ9.out (fun h => h))
                  have hst := set_any p (-1) b1 b2 (AL.put (lk t (last + 1)) (Ls.enc ⟨last + 1, un, ex, dy, mo⟩) (dels now t G)) was va (mk t) (last + 1) (by omega) (by omega) wa MMa.out ho.bs (Nat.le_trans (put_length _ _ _) (Nat.le_trans (Nat.add_le_add_right (Nat.le_trans (dels_len t G now) HSM.out.1) 1) (by omega)))
                  rw [(put_mk _ t (last + 1) (by omega)).1, (put_mk _ t (last + 1) (by omega)).2] at hst
                  unfold sV pV at hst
                  have HST := Lib.hid hst
                  clear ho hb hba hst MM9 KK9 QQ9
                  go_wp2_with fail
                  refine HST.out.mono ?_
                  rintro e wb ⟨rfl, h5, h6⟩
                  have MMb := Lib.hid h5
                  have KKb := Lib.hid (KKa.out.trans h6 (fun i hi => .inl hi))
                  have ce := blk_cell (h6.blk QQa.out (fun e => by omega)) 0
                  clear h5 h6 HST MMa KKa QQa
                  go_wp2
                  go_ret2
                  exact ⟨rfl, by rw [HS2.out]; exact MMb.out, KKb.out⟩
                exact AllReadyH.nil
              exact AllReadyH.nil
            exact AllReadyH.nil
          exact AllReadyH.nil
  · have e1 : E = 1 := by rw [hE]; unfold addE; rw [if_pos hmay]
    have e2 : I = 0 := by rw [hI]; unfold addI; rw [← hE, e1]; rfl
    have e3 : S = now := by rw [hS]; unfold addS; rw [← hE, e1]; rfl
    have hmm : un < 1 ∨ (¬ un < 1 ∧ 1099511627776 < un) ∨ (¬ un < 1 ∧ ¬ 1099511627776 < un ∧ ex ≤ m) ∨ (¬ un < 1 ∧ ¬ 1099511627776 < un ∧ ¬ ex ≤ m ∧ 137438953472 < ex) ∨ (¬ un < 1 ∧ ¬ 1099511627776 < un ∧ ¬ ex ≤ m ∧ ¬ 137438953472 < ex ∧ m < wrap64 (ex - 86400)) := by
      by_cases k1 : un < 1
      · exact .inl k1
      · by_cases k2 : 1099511627776 < un
        · exact .inr (.inl ⟨k1, k2⟩)
        · by_cases k3 : ex ≤ m
          · exact .inr (.inr (.inl ⟨k1, k2, k3⟩))
          · by_cases k4 : 137438953472 < ex
            · exact .inr (.inr (.inr (.inl ⟨k1, k2, k3, k4⟩)))
            · refine .inr (.inr (.inr (.inr ⟨k1, k2, k3, k4, ?_⟩)))
              by_cases k5 : m < wrap64 (ex - 86400)
              · exact k5
              · exact absurd ⟨by show 1 ≤ un; omega, by show un ≤ _; omega, by show m < ex; omega, by show ex ≤ _; omega, by show wrap64 (ex - 86400) ≤ m; omega⟩ hmay
    subst e1
    subst e2
    subst e3
    unfold sV pV at *
    clear hmay hE hI hS hM hSm hN hL hlo hb q1 q2 hl hi
    rcases hmm with k1 | ⟨k1, k2⟩ | ⟨k1, k2, k3⟩ | ⟨k1, k2, k3, k4⟩ | ⟨k1, k2, k3, k4, k5⟩
    all_goals
      go_enter Try.func9, Try.ntmps9
      go_wp2_with fail
      go_ret2
      exact ⟨rfl, HM.out, Keep.ofBelow HB.out _⟩
end Go.Proofs.Ytidppalhjknlfaa
