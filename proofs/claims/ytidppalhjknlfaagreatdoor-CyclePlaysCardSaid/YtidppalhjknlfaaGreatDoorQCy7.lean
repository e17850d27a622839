/- cycle.Define, cycle.Open. -/
import Derived.Test.YtidppalhjknlfaaGreatDoorQCy6
namespace Go.Proofs.YtidppalhjknlfaaGreatDoor
open Go.RowKit
set_option maxRecDepth 100000
set_option maxHeartbeats 2000000
set_option linter.unusedVariables false
set_option linter.unusedSimpArgs false
def defE (ps : List Pl) (p : Pl) : Int := if plchk p = false then 1 else if (pfind ps p.id).isSome = true then 5 else 0
def defP (ps : List Pl) (p : Pl) : List Pl := if defE ps p = 0 then ps ++ [p] else ps
theorem Pl.enc_size {p : Pl} (hck : plchk p = true) : p.enc.size ≤ 1000 := by
  have hlen : p.tiers.length ≤ 4 := by
    unfold plchk tchk at hck
    simp only [Bool.and_eq_true, decide_eq_true_eq] at hck
    exact hck.2.2.1.2
  unfold Pl.enc
  rw [encT_size, size_append, encL_size, i8_size, show (be8 p.id).size = 8 from be_size _ 8]
  show 8 + 8 * 5 + 8 + 16 * p.tiers.length ≤ 1000
  omega
theorem cdef_any (p b1 b2 m : Nat) (ps : List Pl) (ts : List Tn) (P : Pl) (hP : P.Ok) (v : Value) (w : World) (h : CB w p b1 b2 ps ts m) (hm1 : m + 1 ≤ 1000000) (hv : GR shT w v P.tiers) :
    Calls Tryz.prog 8 #[sV p, P.val v] w fun e w' => e = .returned (.int .i64 (defE ps P)) ∧ CB w' p b1 b2 (defP ps P) ts (m + 1) ∧ Keep (fun i => i = b1) w w' := by
  obtain ⟨va, vc, rfl, _, _, _⟩ := hv.shape
  obtain ⟨W, hW⟩ : ∃ W, W = w.alloc (.cells #[.int .u32 P.id, .int .i64 P.daily, .int .i64 P.monthly, .int .i64 P.over, .int .i64 P.roll, .int .i64 P.base, .slice va P.tiers.length vc] 35) := ⟨_, rfl⟩
  have hbW : Below w.heap.size w W := by rw [hW]; exact (Below.refl _ _).alloc (Nat.le_refl _) _
  have q0 : W.heap[w.heap.size]? = some (.cells #[.int .u32 P.id, .int .i64 P.daily, .int .i64 P.monthly, .int .i64 P.over, .int .i64 P.roll, .int .i64 P.base, .slice va P.tiers.length vc] 35 (0, 0)) := by rw [hW]; exact blk_new _ _
  have hid : 0 ≤ P.id ∧ P.id ≤ 4294967295 := hP.id
  have tw : IntKind.u64.wrap P.id = P.id := by rw [IntKind.wrap_u64]; omega
  have HVW := Lib.hid (hv.below hbW)
  have HCW := Lib.hid (h.below hbW)
  have HBW := Lib.hid hbW
  have Q0 := Lib.hid q0
  have HP := Lib.hid hP
  have HHH := Lib.hid h
  obtain ⟨E, hEe⟩ : ∃ E, E = defE ps P := ⟨_, rfl⟩
  obtain ⟨S, hS⟩ : ∃ S, S = defP ps P := ⟨_, rfl⟩
  rw [← hEe, ← hS]
  have HEE := Lib.hid hEe
  have HS := Lib.hid hS
  unfold sV pV Pl.val
  have c0 := blk_cell q0 0
  have c1 := blk_cell q0 1
  have c2 := blk_cell q0 2
  have c3 := blk_cell q0 3
  have c4 := blk_cell q0 4
  have c5 := blk_cell q0 5
  have c6 := blk_cell q0 6
  clear h hv hbW q0 hP hEe hS
  go_enter Tryz.func8, Tryz.ntmps8
  go_upto_region 1 with fail
  rw [← hW]
  clear hW
  cases hck : plchk P with
  | false =>
    have hE1 : E = 1 := by rw [HEE.out]; unfold defE; rw [if_pos hck]
    have hS2 : S = ps := by rw [HS.out]; unfold defP; rw [show defE ps P = 1 by rw [← HEE.out]; exact hE1, if_neg (by decide)]
    subst hE1
    subst hS2
    have HPU := Lib.hid (pput_no P _ W HVW.out hck)
    unfold Pl.val at HPU
    clear hck
    go_wp2_with fail
    refine HPU.out.mono ?_
    rintro e w1 ⟨rfl, hb⟩
    have HB1 := Lib.hid (HBW.out.trans (hb.mono HBW.out.size))
    clear hb HPU
    go_wp2
    go_ret
    exact ⟨rfl, (HHH.out.below HB1.out).mono (by omega) hm1, Keep.ofBelow HB1.out _⟩
  | true =>
    have HPU := Lib.hid (pput_yes P _ hid W HVW.out hck)
    unfold Pl.val at HPU
    have HPZ := Lib.hid (Pl.enc_size hck)
    have HCK := Lib.hid hck
    go_wp2_with fail
    refine HPU.out.mono ?_
    rintro e w1 ⟨v1, rfl, hbs, hb⟩
    obtain ⟨n, hn⟩ : ∃ n, n = P.enc.size := ⟨_, rfl⟩
    obtain ⟨a1, c1', rfl, _, _⟩ := hbs.len2 hn.symm
    have HV1 := Lib.hid hbs
    have HB1 := Lib.hid (HBW.out.trans (hb.mono HBW.out.size))
    have d0 := blk_cell ((Keep.ofBelow hb (fun _ => False)).blk Q0.out (fun h => h)) 0
    clear hbs hb HPU c0 c1 c2 c3 c4 c5 c6 hn hck
    go_wp2_with fail
    refine (key_any 110 (by decide) (by decide) _ [P.id] _ (US.lit1 _ P.id hid.1 (by omega) _) (by simp)).mono ?_
    rintro e w2 ⟨v2, rfl, ho, hb⟩
    have hb2 := below_and ((Below.refl w1.heap.size w1).alloc (Nat.le_refl _) _) hb
    have HO2 := Lib.hid (show BS w2 v2 (nk P.id) from ho.bs)
    have HV2 := Lib.hid (HV1.out.below hb2)
    have HB2 := Lib.hid (HB1.out.trans (hb2.mono HB1.out.size))
    clear ho hb hb2
    obtain ⟨a2, c2', rfl, _, _⟩ := HO2.out.len2 (nk_size _)
    obtain ⟨now, g1, g2, g3, g4⟩ := HHH.out
    have hpl := g2.plan P.id hid
    have hG := fun (X : World) (hm : MemIs X p (-1) b1 b2 now []) (hk : BS X (.slice a2 9 c2') (nk P.id)) => get_any p (-1) b1 b2 now [] _ (nk P.id) X hm hk (fun v hv => by have := g3.get hv; omega)
    have na := nil_get p
    have na2 := nil_put p
    have G1 := Lib.hid g1
    have G2 := Lib.hid g2
    have G3 := Lib.hid g3
    rw [hpl] at hG
    unfold pV at hG
    cases hf : pfind ps P.id with
    | some P' =>
      have hE1 : E = 5 := by rw [HEE.out]; unfold defE; rw [if_neg (by rw [HCK.out]; decide), if_pos (by rw [hf]; rfl)]
      have hS2 : S = ps := by rw [HS.out]; unfold defP; rw [show defE ps P = 5 by rw [← HEE.out]; exact hE1, if_neg (by decide)]
      subst hE1
      subst hS2
      rw [hf] at hG
      have HG := Lib.hid hG
      clear hG hf hpl g1 g2 g3
      go_wp2_with fail
      refine (HG.out w2 (G1.out.below HB2.out) HO2.out).mono ?_
      rintro e w3 ⟨v3, rfl, hm, hb⟩
      have HB3 := Lib.hid (HB2.out.trans (hb.mono HB2.out.size))
      clear hm hb
      go_wp2
      go_ret
      exact ⟨rfl, (HHH.out.below HB3.out).mono (by omega) hm1, Keep.ofBelow HB3.out _⟩
    | none =>
      have hE1 : E = 0 := by rw [HEE.out]; unfold defE; rw [if_neg (by rw [HCK.out]; decide), if_neg (by rw [hf]; decide)]
      have hS2 : S = ps ++ [P] := by rw [HS.out]; unfold defP; rw [show defE ps P = 0 by rw [← HEE.out]; exact hE1, if_pos rfl]
      subst hE1
      subst hS2
      rw [hf] at hG
      have HG := Lib.hid hG
      have HF := Lib.hid hf
      obtain ⟨pe, pa⟩ := put_ok now (nk P.id) P.enc (by rw [nk_size]; omega) (by rw [nk_size]; omega) (by have := HPZ.out; omega)
      have hpt := fun (X : World) (h1 : MemIs X p (-1) b1 b2 now []) (h2 : BS X (.slice a2 9 c2') (nk P.id)) (h3 : BS X (.slice a1 n c1') P.enc) => put_any p (-1) b1 b2 now [] _ _ _ _ X h1 h2 h3 (by have := G3.out.len; omega)
      rw [pe, pa] at hpt
      unfold pV at hpt
      have HPT := Lib.hid hpt
      clear hG hf hpl g1 g2 g3 hpt pe pa
      go_wp2_with fail
      refine (HG.out w2 (G1.out.below HB2.out) HO2.out).mono ?_
      rintro e w3 ⟨v3, rfl, hm, hb⟩
      have HB3 := Lib.hid (HB2.out.trans (hb.mono HB2.out.size))
      have HC := Lib.hid (HPT.out w3 (G1.out.below HB3.out) (HO2.out.below hb) (HV2.out.below hb))
      clear hm hb HG HPT
      go_wp2_with fail
      refine HC.out.mono ?_
      rintro e w4 ⟨rfl, hm, hk⟩
      have HM4 := Lib.hid hm
      have HK4 := Lib.hid hk
      clear hm hk
      go_wp2
      go_ret
      exact ⟨rfl, ⟨_, HM4.out, CS.define G3.out.nd G2.out P HP.out HCK.out HF.out, G3.out.put (by rw [nk_size]; omega) (by have := HPZ.out; omega), hm1⟩, (Keep.ofBelow HB3.out (fun i => i = b1)).trans HK4.out (fun i hi => .inl hi)⟩
end Go.Proofs.YtidppalhjknlfaaGreatDoor
