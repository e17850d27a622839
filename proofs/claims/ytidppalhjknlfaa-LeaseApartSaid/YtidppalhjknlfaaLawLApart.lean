/- The walk of LeaseApart. -/
import Derived.Test.YtidppalhjknlfaaLawLPlays
namespace Go.Proofs.Ytidppalhjknlfaa
open Go.RowKit
set_option maxRecDepth 100000
set_option linter.unusedVariables false
set_option linter.unusedSimpArgs false
set_option maxHeartbeats 4000000
/-- what both stores are behind j acts -/
def LA (w : World) (p b1 b2 p' b1' b2' : Nat) (j : Nat) : Prop := ∃ n1 n2 L last M lm, MemIs w p (-1) b1 b2 n1 [] ∧ MemIs w p' (-1) b1' b2' n2 [] ∧ LS n1 1 L last ∧ LS n1 2 [] 0 ∧ LS n2 1 L last ∧ LS n2 2 M lm ∧ St (2 * j) n1 ∧ St (4 * j) n2 ∧ last ≤ j ∧ lm ≤ j ∧ L.length ≤ 8 ∧ M.length ≤ 8
theorem MemIs.memk {w w' : World} {p b1 b2 : Nat} {r : Int} {now was : AL} {b : Nat} (h : MemIs w p r b1 b2 now was) (hk : Keep (fun i => i = b) w w') (h0 : p ≠ b) (h1 : b1 ≠ b) (h2 : b2 ≠ b) : MemIs w' p r b1 b2 now was := h.keep hk h0 h1 h2
theorem u32_1 : U32 1 := by unfold U32; decide
theorem u32_2 : U32 2 := by unfold U32; decide
theorem lapart_any (lv : Value) (l : List A20) (w : World) (hL : AS20 w lv l) :
    Calls Try.prog 6 #[lv] w fun e w' => e = .returned (.bool true) ∧ Below w.heap.size w w' := by
  obtain ⟨la, lc, rfl⟩ : ∃ a c, lv = .slice a l.length c := by obtain ⟨a, c, h, _⟩ := hL; exact ⟨a, c, h⟩
  have HG := Lib.hid goes20
  have HL := Lib.hid hL
  clear hL
  by_cases hll : 60 < l.length
  · have i0 : (60 : Int) < (l.length : Int) := by omega
    clear hll
    go_enter Try.func6, Try.ntmps6
    go_wp2_with fail
    go_ret
    exact ⟨rfl, Below.refl _ _⟩
  · have i0 : ¬ (60 : Int) < (l.length : Int) := by omega
    have HN := Lib.hid new_any
    go_enter Try.func6, Try.ntmps6
    go_wp2_with fail
    refine (HN.out (-1) _).mono ?_
    rintro e w1 ⟨p, b1, b2, rfl, hp, hb1, hb2, hm, hb⟩
    have HM1 := Lib.hid hm
    have HB1 := Lib.hid hb
    have lp1 := blk_lt hm.blk
    have lp2 : b1 < w1.heap.size := by obtain ⟨es, c, h1, _⟩ := hm.now; exact blk_lt h1
    have lp3 : b2 < w1.heap.size := by obtain ⟨es, c, h1, _⟩ := hm.was; exact blk_lt h1
    clear hm hb
    unfold pV
    go_wp2_with fail
    refine (HN.out (-1) _).mono ?_
    rintro e w2 ⟨p', b1', b2', rfl, hp', hb1', hb2', hm, hb⟩
    have HS2 := Lib.hid (show LA w2 p b1 b2 p' b1' b2' 0 from
      ⟨[], [], [], 0, [], 0, HM1.out.below hb, hm, LS.nil 1, LS.nil 2, LS.nil 1, LS.nil 2, St.nil, St.nil, by simp, by simp, by simp, by simp⟩)
    have HB2 := Lib.hid (HB1.out.trans (hb.mono HB1.out.size))
    have HP := Lib.hid (And.intro hb1 (Nat.le_trans HB1.out.size hb1'))
    have HNE := Lib.hid (show (p ≠ b1' ∧ b1 ≠ b1' ∧ b2 ≠ b1') ∧ (p' ≠ b1 ∧ b1' ≠ b1 ∧ b2' ≠ b1) by omega)
    clear hm hb hp hb1 hb2 hp' hb1' hb2' lp1 lp2 lp3 HM1 HB1 HN
    unfold pV
    go_wp2_with fail
    go_loopw [5] (fun i wr => ∃ j : Nat, j ≤ l.length ∧ i = .int .i64 j ∧ Hid (LA wr p b1 b2 p' b1' b2' j) ∧ Hid (Below w.heap.size w wr)) (fun i _ => l.length - (intOf i).toNat)
    case atStart => exact ⟨0, by omega, rfl, HS2, HB2⟩
    case round =>
      clear HS2 HB2
      obtain ⟨j, hj, rfl, HH, HB3⟩ := hrel
      obtain ⟨n1, n2, L, last, M, lm, hS, hS', hA1, hA2, hA3, hA4, hT, hT', hla, hlm, hlen, hlen'⟩ := HH.out
      by_cases hlt : j < l.length
      · obtain ⟨y, hy⟩ : ∃ y, l[j]? = some y := ⟨_, List.getElem?_eq_getElem hlt⟩
        obtain ⟨lb, lo, hlb, hok, c0, c1, c2, c3, c4, c5, c6⟩ := (HL.out.below HB3.out).at_ hy
        subst hlb
        have i2 : (j : Int) < (l.length : Int) := by omega
        obtain ⟨W, hW⟩ : ∃ W, W = wr.alloc (.cells #[.int .u8 y.doo, .int .u32 y.l.id, .int .i64 y.l.units, .int .i64 y.l.exp, .int .i64 y.l.day, .int .i64 y.l.month, .int .i64 y.now] 33) := ⟨_, rfl⟩
        have hbW : Below wr.heap.size wr W := by rw [hW]; exact (Below.refl _ _).alloc (Nat.le_refl _) _
        have hbox : Box20 W wr.heap.size y := by rw [hW]; exact blk_new wr _
        have hbr : b1 < wr.heap.size := by obtain ⟨es, c, h1, _⟩ := hS.now; exact blk_lt h1
        have hbr' : b1' < wr.heap.size := by obtain ⟨es, c, h1, _⟩ := hS'.now; exact blk_lt h1
        have HBX := Lib.hid hbox
        have HSW := Lib.hid (hS.below hbW)
        have HSW' := Lib.hid (hS'.below hbW)
        have HI1 := Lib.hid hA1
        have HI2 := Lib.hid hA2
        have HI3 := Lib.hid hA3
        have HI4 := Lib.hid hA4
        have HT := Lib.hid hT
        have HT' := Lib.hid hT'
        have HOK := Lib.hid hok
        have HBW := Lib.hid (HB3.out.trans (hbW.mono HB3.out.size))
        have HLA := Lib.hid (And.intro hla hlm)
        have HLN := Lib.hid hlen
        have HLN' := Lib.hid hlen'
        have hw3 : w.heap.size ≤ wr.heap.size := HB3.out.size
        have HOD := hok.d
        have l0 := hA1.lst
        have l1 := hA4.lst
        obtain ⟨e0, e1, e2, e3, e4, e5, e6⟩ := hbox.cells
        rw [hW] at e0 e1 e2 e3 e4 e5 e6
        clear hS hS' hA1 hA2 hA3 hA4 hT hT' hbW hbox hy HH hok hlen hlen'
        go_upto_region 8 with fail
        rw [← hW] at e0 e1 e2 e3 e4 e5 e6 ⊢
        clear hW c0 c1 c2 c3 c4 c5 c6
        have HA := Lib.hid (ladd_any p' b1' b2' n2 [] 2 u32_2 M lm y.l HOK.out.l y.now HOK.out.n W HSW'.out (HT'.out.toSmall (by omega)) HT'.out.nd HI4.out (by have := HLN'.out; omega) (by omega))
        unfold sV Ls.val at HA
        go_wp2_with fail
        refine HA.out.mono ?_
        rintro e w3 ⟨rfl, hm, hk⟩
        have HM3' := Lib.hid hm
        have HM3 := Lib.hid (HSW.out.memk hk HNE.out.1.1 HNE.out.1.2.1 HNE.out.1.2.2)
        have hbx3 := HBX.out.keep hk (fun e => by omega)
        have HBX3 := Lib.hid hbx3
        have HB4 := Lib.hid (HBW.out.trans (hk.below (B := w.heap.size) HBW.out.size (fun i hi => by subst hi; exact HP.out.2)))
        have HJ4 := Lib.hid (HI4.out.addS HT'.out.nd u32_2 y.l HOK.out.l (by omega) y.now)
        have HJ3 := Lib.hid (HI3.out.addS_other HT'.out.nd HI4.out u32_1 u32_2 (by decide) y.l HOK.out.l (by omega) y.now)
        have HU' := Lib.hid (HT'.out.addS 2 M lm y.l y.now)
        clear hm hk HA e0 e1 e2 e3 e4 e5 e6
        obtain ⟨e0, e1, e2, e3, e4, e5, e6⟩ := hbx3.cells
        clear hbx3
        obtain ⟨I, hI⟩ : ∃ I, I = addI L last y.l y.now := ⟨_, rfl⟩
        obtain ⟨E, hE⟩ : ∃ E, E = addE L y.l y.now := ⟨_, rfl⟩
        have HA := Lib.hid (ladd_any p b1 b2 n1 [] 1 u32_1 L last y.l HOK.out.l y.now HOK.out.n w3 HM3.out (HT.out.toSmall (by omega)) HT.out.nd HI1.out (by have := HLN.out; omega) (by omega))
        rw [← hI, ← hE] at HA
        unfold sV Ls.val at HA
        have HIE := Lib.hid (And.intro hI hE)
        clear hI hE
        go_wp2_with fail
        refine HA.out.mono ?_
        rintro e w4 ⟨rfl, hm, hk⟩
        have HM4 := Lib.hid hm
        have HM4' := Lib.hid (HM3'.out.memk hk HNE.out.2.1 HNE.out.2.2.1 HNE.out.2.2.2)
        have hbx4 := HBX3.out.keep hk (fun e => by omega)
        have HBX4 := Lib.hid hbx4
        have HB5 := Lib.hid (HB4.out.trans (hk.below (B := w.heap.size) HB4.out.size (fun i hi => by subst hi; exact HP.out.1)))
        have HJ1 := Lib.hid (HI1.out.addS HT.out.nd u32_1 y.l HOK.out.l (by omega) y.now)
        have HJ2 := Lib.hid (HI2.out.addS_other HT.out.nd HI1.out u32_2 u32_1 (by decide) y.l HOK.out.l (by omega) y.now)
        have HU := Lib.hid (HT.out.addS 1 L last y.l y.now)
        clear hm hk HA e0 e1 e2 e3 e4 e5 e6
        obtain ⟨e0, e1, e2, e3, e4, e5, e6⟩ := hbx4.cells
        clear hbx4
        have HA := Lib.hid (ladd_any p' b1' b2' _ [] 1 u32_1 L last y.l HOK.out.l y.now HOK.out.n w4 HM4'.out (HU'.out.toSmall (by omega)) HU'.out.nd HJ3.out (by have := HLN.out; omega) (by omega))
        rw [← HIE.out.1, ← HIE.out.2] at HA
        unfold sV Ls.val at HA
        clear HIE
        go_wp2_with fail
        refine HA.out.mono ?_
        rintro e w5 ⟨rfl, hm, hk⟩
        have HM5' := Lib.hid hm
        have HM5 := Lib.hid (HM4.out.memk hk HNE.out.1.1 HNE.out.1.2.1 HNE.out.1.2.2)
        have hbx5 := HBX4.out.keep hk (fun e => by omega)
        have HBX5 := Lib.hid hbx5
        have HB6 := Lib.hid (HB5.out.trans (hk.below (B := w.heap.size) HB5.out.size (fun i hi => by subst hi; exact HP.out.2)))
        have HK3 := Lib.hid (HJ3.out.addS HU'.out.nd u32_1 y.l HOK.out.l (by omega) y.now)
        have HK4 := Lib.hid (HJ4.out.addS_other HU'.out.nd HJ3.out u32_2 u32_1 (by decide) y.l HOK.out.l (by omega) y.now)
        have HV' := Lib.hid (HU'.out.addS 1 L last y.l y.now)
        have hq1 : addN L last y.l y.now ≤ j + 1 := by unfold addN; split <;> omega
        have hq2 : addN M lm y.l y.now ≤ j + 1 := by unfold addN; split <;> omega
        have HQ1 := Lib.hid hq1
        have HQ2 := Lib.hid hq2
        have HQ3 := Lib.hid (addL_len (last := last) (l := y.l) (at_ := y.now) HLN.out)
        have HQ4 := Lib.hid (addL_len (last := lm) (l := y.l) (at_ := y.now) HLN'.out)
        generalize addS n1 1 L last y.l y.now = N1 at *
        generalize addS (addS n2 2 M lm y.l y.now) 1 L last y.l y.now = N2 at *
        generalize addN L last y.l y.now = K1 at *
        generalize addN M lm y.l y.now = K2 at *
        generalize addL L last y.l y.now = L' at *
        generalize addL M lm y.l y.now = M' at *
        clear hm hk HA e0 e1 e2 e3 e4 e5 e6 HM4 HM4' HBX4 HB5 HJ3 HJ4 HU' HM3 HM3' HBX3 HB4 HBX HBW HSW HSW' HI1 HI2 HI3 HI4 HT HT' HLA HLN HLN' hla hlm l0 l1 hq1 hq2
        obtain ⟨e0, e1, e2, e3, e4, e5, e6⟩ := hbx5.cells
        clear hbx5
        obtain ⟨d, hd⟩ : ∃ d, y.doo % 4 = d := ⟨_, rfl⟩
        have hdm : y.doo.tmod 4 = d := by rw [Int.tmod_eq_emod_of_nonneg (by omega)]; exact hd
        have hBd : Box20 w5.drew wr.heap.size y := HBX5.out.below ((Below.refl _ _).drew)
        have HM5d := Lib.hid (show MemIs w5.drew p (-1) b1 b2 N1 [] from HM5.out.below ((Below.refl _ _).drew))
        have HM5d' := Lib.hid (show MemIs w5.drew p' (-1) b1' b2' N2 [] from HM5'.out.below ((Below.refl _ _).drew))
        have HBD := Lib.hid (show Below w.heap.size w w5.drew from HB6.out.drew)
        have K0 := Lib.hid (show w5.drew.cell? ⟨wr.heap.size, 0, none⟩ = some (.int .u8 y.doo) ∧ w5.drew.cell? ⟨wr.heap.size, 1, none⟩ = some (.int .u32 y.l.id) from ⟨hBd.cells.1, hBd.cells.2.1⟩)
        have HBXD := Lib.hid hBd
        clear hBd
        by_cases h2 : d = 2
        · subst h2
          have hd1 := ldrop_any p b1 b2 (-1) N1 [] 1 y.l.id u32_1 HOK.out.l.id L' K1 w5.drew HM5d.out HU.out.nd HJ1.out
          have hd2 := fun (w6 : World) (hm : MemIs w6 p' (-1) b1' b2' N2 []) => ldrop_any p' b1' b2' (-1) N2 [] 1 y.l.id u32_1 HOK.out.l.id L' K1 w6 hm HV'.out.nd HK3.out
          have hj2 := HJ2.out.del_other HU.out.nd u32_2 u32_1 (by decide) HOK.out.l.id
          have hu2 := HU.out.del (lk 1 y.l.id)
          have hd3 := fun (w6 : World) (hm : MemIs w6 p (-1) b1 b2 (AL.del (lk 1 y.l.id) N1) []) => ldrop_any p b1 b2 (-1) _ [] 2 y.l.id u32_2 HOK.out.l.id [] 0 w6 hm hu2.nd hj2
          obtain ⟨E', hE'⟩ : ∃ E', E' = dropE L' y.l.id := ⟨_, rfl⟩
          rw [← hE'] at hd1
          simp only [← hE', show dropE [] y.l.id = 44 from rfl] at hd2 hd3
          unfold sV at hd1 hd2 hd3
          have HD1 := Lib.hid hd1
          have HD2 := Lib.hid hd2
          have HD3 := Lib.hid hd3
          have HF1 := Lib.hid ((HJ1.out.del HU.out.nd u32_1 HOK.out.l.id).del_other hu2.nd u32_1 u32_2 (by decide) HOK.out.l.id)
          have HF2 := Lib.hid (hj2.del hu2.nd u32_2 HOK.out.l.id)
          have HF3 := Lib.hid (HK3.out.del HV'.out.nd u32_1 HOK.out.l.id)
          have HF4 := Lib.hid (HK4.out.del_other HV'.out.nd u32_2 u32_1 (by decide) HOK.out.l.id)
          have HG1 := Lib.hid (hu2.del (lk 2 y.l.id))
          have HG2 := Lib.hid (HV'.out.del (lk 1 y.l.id))
          clear hd1 hd2 hd3 hE' hj2 hu2
          go_upto_region 13 with fail
          clear e0 e1 e2 e3 e4 e5 e6
          refine wp_region_held_drew (S := (fun w' => w'.cell? ⟨wr.heap.size, 0, none⟩ = some (.int .u8 y.doo) ∧ w'.cell? ⟨wr.heap.size, 1, none⟩ = some (.int .u32 y.l.id))) (by kernel_rfl) ?_ (fun hHeld0 => ?_)
          · (try dsimp only)
            first | with_reducible exact K0.out | with_reducible exact K1'.out | with_reducible exact K2'.out | with_reducible exact K3'.out
          refine takeN (v := ?_) 0 rfl (by kernel_rfl) (by kernel_rfl) (by kernel_rfl) (fun _ _ _ h => h) (by rfl) ?_ hHeld0 ?_
          rotate_left
          · intro w hSw; (try dsimp only at hSw); go_simp; with_reducible rfl
          try simp only [Act.put, List.setIfInBounds_toArray, List.set_cons_zero, List.set_cons_succ]
          refine takeN (v := ?_) 1 rfl (by kernel_rfl) (by kernel_rfl) (by kernel_rfl) (fun _ _ _ h => h) (by rfl) ?_ hHeld0 ?_
          rotate_left
          · intro w hSw; (try dsimp only at hSw); go_simp; with_reducible rfl
          try simp only [Act.put, List.setIfInBounds_toArray, List.set_cons_zero, List.set_cons_succ]
          refine takeN (v := ?_) 2 rfl (by kernel_rfl) (by kernel_rfl) (by kernel_rfl) (fun _ _ _ h => h) (by rfl) ?_ hHeld0 ?_
          rotate_left
          · intro w hSw; (try dsimp only at hSw); go_simp; with_reducible rfl
          try simp only [Act.put, List.setIfInBounds_toArray, List.set_cons_zero, List.set_cons_succ]
          refine takeN (v := ?_) 3 rfl (by kernel_rfl) (by kernel_rfl) (by kernel_rfl) (fun _ _ _ h => h) (by rfl) ?_ hHeld0 ?_
          rotate_left
          · intro w hSw; (try dsimp only at hSw); go_simp; with_reducible rfl
          try simp only [Act.put, List.setIfInBounds_toArray, List.set_cons_zero, List.set_cons_succ]
          refine takeN (v := ?_) 4 rfl (by kernel_rfl) (by kernel_rfl) (by kernel_rfl) (fun _ _ _ h => h) (by rfl) ?_ hHeld0 ?_
          rotate_left
          · intro w hSw; (try dsimp only at hSw); go_simp; with_reducible rfl
          try simp only [Act.put, List.setIfInBounds_toArray, List.set_cons_zero, List.set_cons_succ]
          refine takeN (v := ?_) 5 rfl (by kernel_rfl) (by kernel_rfl) (by kernel_rfl) (fun _ _ _ h => h) (by rfl) ?_ hHeld0 ?_
          rotate_left
          · intro w hSw; (try dsimp only at hSw); go_simp; with_reducible rfl
          try simp only [Act.put, List.setIfInBounds_toArray, List.set_cons_zero, List.set_cons_succ]
          refine takeN (v := ?_) 6 rfl (by kernel_rfl) (by kernel_rfl) (by kernel_rfl) (fun _ _ _ h => h) (by rfl) ?_ hHeld0 ?_
          rotate_left
          · intro w hSw; (try dsimp only at hSw); go_simp; with_reducible rfl
          try simp only [Act.put, List.setIfInBounds_toArray, List.set_cons_zero, List.set_cons_succ]
          refine takeN (v := ?_) 7 rfl (by kernel_rfl) (by kernel_rfl) (by kernel_rfl) (fun _ _ _ h => h) (by rfl) ?_ hHeld0 ?_
          rotate_left
          · intro w hSw; (try dsimp only at hSw); go_simp; with_reducible rfl
          try simp only [Act.put, List.setIfInBounds_toArray, List.set_cons_zero, List.set_cons_succ]
          refine takeN (v := ?_) 8 rfl (by kernel_rfl) (by kernel_rfl) (by kernel_rfl) (fun _ _ _ h => h) (by rfl) ?_ hHeld0 ?_
          rotate_left
          · intro w hSw; (try dsimp only at hSw); go_simp; with_reducible rfl
          try simp only [Act.put, List.setIfInBounds_toArray, List.set_cons_zero, List.set_cons_succ]
          refine takeN (v := ?_) 9 rfl (by kernel_rfl) (by kernel_rfl) (by kernel_rfl) (fun _ _ _ h => h) (by rfl) ?_ hHeld0 ?_
          rotate_left
          · intro w hSw; (try dsimp only at hSw); go_simp; with_reducible rfl
          try simp only [Act.put, List.setIfInBounds_toArray, List.set_cons_zero, List.set_cons_succ]
          refine takeN (v := ?_) 11 rfl (by kernel_rfl) (by kernel_rfl) (by kernel_rfl) (fun _ _ _ h => h) (by rfl) ?_ hHeld0 ?_
          rotate_left
          · intro w hSw; (try dsimp only at hSw); go_simp; with_reducible rfl
          try simp only [Act.put, List.setIfInBounds_toArray, List.set_cons_zero, List.set_cons_succ]
          refine takeN (v := ?_) 12 rfl (by kernel_rfl) (by kernel_rfl) (by kernel_rfl) (fun _ _ _ h => h) (by rfl) ?_ hHeld0 ?_
          rotate_left
          · intro w hSw; (try dsimp only at hSw); go_simp; with_reducible rfl
          try simp only [Act.put, List.setIfInBounds_toArray, List.set_cons_zero, List.set_cons_succ]
          refine takeN (v := ?_) 13 rfl (by kernel_rfl) (by kernel_rfl) (by kernel_rfl) (fun _ _ _ h => h) (by rfl) ?_ hHeld0 ?_
          rotate_left
          · intro w hSw; (try dsimp only at hSw); go_simp; with_reducible rfl
          try simp only [Act.put, List.setIfInBounds_toArray, List.set_cons_zero, List.set_cons_succ]
          refine takeN (v := ?_) 14 rfl (by kernel_rfl) (by kernel_rfl) (by kernel_rfl) (fun _ _ _ h => h) (by rfl) ?_ hHeld0 ?_
          rotate_left
          · intro w hSw; (try dsimp only at hSw); go_simp; with_reducible rfl
          try simp only [Act.put, List.setIfInBounds_toArray, List.set_cons_zero, List.set_cons_succ]
          refine takeN (v := ?_) 15 rfl (by kernel_rfl) (by kernel_rfl) (by kernel_rfl) (fun _ _ _ h => h) (by rfl) ?_ hHeld0 ?_
          rotate_left
          · intro w hSw; (try dsimp only at hSw); go_simp; with_reducible rfl
          try simp only [Act.put, List.setIfInBounds_toArray, List.set_cons_zero, List.set_cons_succ]
          refine wpAnyH_ready (rs := [10]) (by kernel_rfl) (by simp) ?_
          refine readyN rfl (fun K hK => ?_) ?_
          · -- operation 10
            go_simp
            first
              | (go_at_call 13
                 refine HD1.out.mono ?_
                 rintro e w6 ⟨rfl, hm, hk⟩
                 have HM6 := Lib.hid hm
                 have HM6' := Lib.hid (HM5d'.out.memk hk HNE.out.2.1 HNE.out.2.2.1 HNE.out.2.2.2)
                 have hbx6 := HBXD.out.keep hk (fun e => by omega)
                 have HBX6 := Lib.hid hbx6
                 have K1' := Lib.hid (And.intro hbx6.cells.1 hbx6.cells.2.1)
                 have HB7 := Lib.hid (HBD.out.trans (hk.below (B := w.heap.size) HBD.out.size (fun i hi => by subst hi; exact HP.out.1)))
                 clear hm hk hbx6 HD1)
              | (go_at_call 13
                 refine (HD2.out _ HM6'.out).mono ?_
                 rintro e w7 ⟨rfl, hm, hk⟩
                 have HM7' := Lib.hid hm
                 have HM7 := Lib.hid (HM6.out.memk hk HNE.out.1.1 HNE.out.1.2.1 HNE.out.1.2.2)
                 have hbx7 := HBX6.out.keep hk (fun e => by omega)
                 have HBX7 := Lib.hid hbx7
                 have K2' := Lib.hid (And.intro hbx7.cells.1 hbx7.cells.2.1)
                 have HB8 := Lib.hid (HB7.out.trans (hk.below (B := w.heap.size) HB7.out.size (fun i hi => by subst hi; exact HP.out.2)))
                 clear hm hk hbx7 HD2)
              | (go_at_call 13
                 refine (HD3.out _ HM7.out).mono ?_
                 rintro e w8 ⟨rfl, hm, hk⟩
                 have HM8 := Lib.hid hm
                 have HM8' := Lib.hid (HM7'.out.memk hk HNE.out.2.1 HNE.out.2.2.1 HNE.out.2.2.2)
                 have hbx8 := HBX7.out.keep hk (fun e => by omega)
                 have K3' := Lib.hid (And.intro hbx8.cells.1 hbx8.cells.2.1)
                 have HB9 := Lib.hid (HB8.out.trans (hk.below (B := w.heap.size) HB8.out.size (fun i hi => by subst hi; exact HP.out.1)))
                 clear hm hk hbx8 HD3)
            go_wp2_with fail
            refine hK.out _ _ ?_ (fun hHeld1 => ?_)
            · (try dsimp only)
              first | with_reducible exact K0.out | with_reducible exact K1'.out | with_reducible exact K2'.out | with_reducible exact K3'.out
            clear hK K hHeld0
            try simp only [Act.put, List.setIfInBounds_toArray, List.set_cons_zero, List.set_cons_succ]
            refine wpAnyH_ready (rs := [16]) (by kernel_rfl) (by simp) ?_
            refine readyN rfl (fun K hK => ?_) ?_
            · -- operation 16
              go_simp
              first
                | (go_at_call 13
                   refine HD1.out.mono ?_
                   rintro e w6 ⟨rfl, hm, hk⟩
                   have HM6 := Lib.hid hm
                   have HM6' := Lib.hid (HM5d'.out.memk hk HNE.out.2.1 HNE.out.2.2.1 HNE.out.2.2.2)
                   have hbx6 := HBXD.out.keep hk (fun e => by omega)
                   have HBX6 := Lib.hid hbx6
                   have K1' := Lib.hid (And.intro hbx6.cells.1 hbx6.cells.2.1)
                   have HB7 := Lib.hid (HBD.out.trans (hk.below (B := w.heap.size) HBD.out.size (fun i hi => by subst hi; exact HP.out.1)))
                   clear hm hk hbx6 HD1)
                | (go_at_call 13
                   refine (HD2.out _ HM6'.out).mono ?_
                   rintro e w7 ⟨rfl, hm, hk⟩
                   have HM7' := Lib.hid hm
                   have HM7 := Lib.hid (HM6.out.memk hk HNE.out.1.1 HNE.out.1.2.1 HNE.out.1.2.2)
                   have hbx7 := HBX6.out.keep hk (fun e => by omega)
                   have HBX7 := Lib.hid hbx7
                   have K2' := Lib.hid (And.intro hbx7.cells.1 hbx7.cells.2.1)
                   have HB8 := Lib.hid (HB7.out.trans (hk.below (B := w.heap.size) HB7.out.size (fun i hi => by subst hi; exact HP.out.2)))
                   clear hm hk hbx7 HD2)
                | (go_at_call 13
                   refine (HD3.out _ HM7.out).mono ?_
                   rintro e w8 ⟨rfl, hm, hk⟩
                   have HM8 := Lib.hid hm
                   have HM8' := Lib.hid (HM7'.out.memk hk HNE.out.2.1 HNE.out.2.2.1 HNE.out.2.2.2)
                   have hbx8 := HBX7.out.keep hk (fun e => by omega)
                   have K3' := Lib.hid (And.intro hbx8.cells.1 hbx8.cells.2.1)
                   have HB9 := Lib.hid (HB8.out.trans (hk.below (B := w.heap.size) HB8.out.size (fun i hi => by subst hi; exact HP.out.1)))
                   clear hm hk hbx8 HD3)
              go_wp2_with fail
              refine hK.out _ _ ?_ (fun hHeld2 => ?_)
              · (try dsimp only)
                first | with_reducible exact K0.out | with_reducible exact K1'.out | with_reducible exact K2'.out | with_reducible exact K3'.out
              clear hK K hHeld1
              try simp only [Act.put, List.setIfInBounds_toArray, List.set_cons_zero, List.set_cons_succ]
              refine takeN (v := ?_) 17 rfl (by kernel_rfl) (by kernel_rfl) (by kernel_rfl) (fun _ _ _ h => h) (by rfl) ?_ hHeld2 ?_
              rotate_left
              · intro w hSw; (try dsimp only at hSw); go_simp; with_reducible rfl
              try simp only [Act.put, List.setIfInBounds_toArray, List.set_cons_zero, List.set_cons_succ]
              refine takeN (v := ?_) 18 rfl (by kernel_rfl) (by kernel_rfl) (by kernel_rfl) (fun _ _ _ h => h) (by rfl) ?_ hHeld2 ?_
              rotate_left
              · intro w hSw; (try dsimp only at hSw); go_simp; with_reducible rfl
              try simp only [Act.put, List.setIfInBounds_toArray, List.set_cons_zero, List.set_cons_succ]
              refine takeN (v := ?_) 19 rfl (by kernel_rfl) (by kernel_rfl) (by kernel_rfl) (fun _ _ _ h => h) (by rfl) ?_ hHeld2 ?_
              rotate_left
              · intro w hSw; (try dsimp only at hSw); go_simp; with_reducible rfl
              try simp only [Act.put, List.setIfInBounds_toArray, List.set_cons_zero, List.set_cons_succ]
              refine takeN (v := ?_) 20 rfl (by kernel_rfl) (by kernel_rfl) (by kernel_rfl) (fun _ _ _ h => h) (by rfl) ?_ hHeld2 ?_
              rotate_left
              · intro w hSw; (try dsimp only at hSw); go_simp; with_reducible rfl
              try simp only [Act.put, List.setIfInBounds_toArray, List.set_cons_zero, List.set_cons_succ]
              refine takeN (v := ?_) 21 rfl (by kernel_rfl) (by kernel_rfl) (by kernel_rfl) (fun _ _ _ h => h) (by rfl) ?_ hHeld2 ?_
              rotate_left
              · intro w hSw; (try dsimp only at hSw); go_simp; with_reducible rfl
              try simp only [Act.put, List.setIfInBounds_toArray, List.set_cons_zero, List.set_cons_succ]
              refine takeN (v := ?_) 22 rfl (by kernel_rfl) (by kernel_rfl) (by kernel_rfl) (fun _ _ _ h => h) (by rfl) ?_ hHeld2 ?_
              rotate_left
              · intro w hSw; (try dsimp only at hSw); go_simp; with_reducible rfl
              try simp only [Act.put, List.setIfInBounds_toArray, List.set_cons_zero, List.set_cons_succ]
              refine takeN (v := ?_) 23 rfl (by kernel_rfl) (by kernel_rfl) (by kernel_rfl) (fun _ _ _ h => h) (by rfl) ?_ hHeld2 ?_
              rotate_left
              · intro w hSw; (try dsimp only at hSw); go_simp; with_reducible rfl
              try simp only [Act.put, List.setIfInBounds_toArray, List.set_cons_zero, List.set_cons_succ]
              refine wpAnyH_ready (rs := [24]) (by kernel_rfl) (by simp) ?_
              refine readyN rfl (fun K hK => ?_) ?_
              · -- operation 24
                go_simp
                first
                  | (go_at_call 13
                     refine HD1.out.mono ?_
                     rintro e w6 ⟨rfl, hm, hk⟩
                     have HM6 := Lib.hid hm
                     have HM6' := Lib.hid (HM5d'.out.memk hk HNE.out.2.1 HNE.out.2.2.1 HNE.out.2.2.2)
                     have hbx6 := HBXD.out.keep hk (fun e => by omega)
                     have HBX6 := Lib.hid hbx6
                     have K1' := Lib.hid (And.intro hbx6.cells.1 hbx6.cells.2.1)
                     have HB7 := Lib.hid (HBD.out.trans (hk.below (B := w.heap.size) HBD.out.size (fun i hi => by subst hi; exact HP.out.1)))
                     clear hm hk hbx6 HD1)
                  | (go_at_call 13
                     refine (HD2.out _ HM6'.out).mono ?_
                     rintro e w7 ⟨rfl, hm, hk⟩
                     have HM7' := Lib.hid hm
                     have HM7 := Lib.hid (HM6.out.memk hk HNE.out.1.1 HNE.out.1.2.1 HNE.out.1.2.2)
                     have hbx7 := HBX6.out.keep hk (fun e => by omega)
                     have HBX7 := Lib.hid hbx7
                     have K2' := Lib.hid (And.intro hbx7.cells.1 hbx7.cells.2.1)
                     have HB8 := Lib.hid (HB7.out.trans (hk.below (B := w.heap.size) HB7.out.size (fun i hi => by subst hi; exact HP.out.2)))
                     clear hm hk hbx7 HD2)
                  | (go_at_call 13
                     refine (HD3.out _ HM7.out).mono ?_
                     rintro e w8 ⟨rfl, hm, hk⟩
                     have HM8 := Lib.hid hm
                     have HM8' := Lib.hid (HM7'.out.memk hk HNE.out.2.1 HNE.out.2.2.1 HNE.out.2.2.2)
                     have hbx8 := HBX7.out.keep hk (fun e => by omega)
                     have K3' := Lib.hid (And.intro hbx8.cells.1 hbx8.cells.2.1)
                     have HB9 := Lib.hid (HB8.out.trans (hk.below (B := w.heap.size) HB8.out.size (fun i hi => by subst hi; exact HP.out.1)))
                     clear hm hk hbx8 HD3)
                go_wp2_with fail
                refine hK.out _ _ ?_ (fun hHeld3 => ?_)
                · (try dsimp only)
                  first | with_reducible exact K0.out | with_reducible exact K1'.out | with_reducible exact K2'.out | with_reducible exact K3'.out
                clear hK K hHeld2
                try simp only [Act.put, List.setIfInBounds_toArray, List.set_cons_zero, List.set_cons_succ]
                refine takeN (v := ?_) 25 rfl (by kernel_rfl) (by kernel_rfl) (by kernel_rfl) (fun _ _ _ h => h) (by rfl) ?_ hHeld3 ?_
                rotate_left
                · intro w hSw; (try dsimp only at hSw); go_simp; with_reducible rfl
                try simp only [Act.put, List.setIfInBounds_toArray, List.set_cons_zero, List.set_cons_succ]
                refine takeN (v := ?_) 26 rfl (by kernel_rfl) (by kernel_rfl) (by kernel_rfl) (fun _ _ _ h => h) (by rfl) ?_ hHeld3 ?_
                rotate_left
                · intro w hSw; (try dsimp only at hSw); go_simp; with_reducible rfl
                try simp only [Act.put, List.setIfInBounds_toArray, List.set_cons_zero, List.set_cons_succ]
                refine takeN (v := ?_) 27 rfl (by kernel_rfl) (by kernel_rfl) (by kernel_rfl) (fun _ _ _ h => h) (by rfl) ?_ hHeld3 ?_
                rotate_left
                · intro w hSw; (try dsimp only at hSw); go_simp; with_reducible rfl
                try simp only [Act.put, List.setIfInBounds_toArray, List.set_cons_zero, List.set_cons_succ]
                refine wpAnyH_done (by kernel_rfl) ?_ _
                go_wp2_with fail
                go_roundw
                case rel => exact ⟨j + 1, by omega, by go_num, Lib.hid ⟨_, _, _, _, _, _, HM8.out, HM8'.out, HF1.out, HF2.out, HF3.out, HF4.out, HG1.out.mono (by omega), HG2.out.mono (by omega), HQ1.out, HQ2.out, Nat.le_trans (List.length_filter_le _ _) HQ3.out, HQ4.out⟩, HB9⟩
                case measure => simp [intOf]; omega
              exact AllReadyH.nil
            exact AllReadyH.nil
          exact AllReadyH.nil
        · have hdd : (d == 2) = false := beq_eq_false_iff_ne.2 h2
          go_upto_region 13 with fail
          clear e0 e1 e2 e3 e4 e5 e6
          refine wp_region_held_drew (S := (fun w' => w'.cell? ⟨wr.heap.size, 0, none⟩ = some (.int .u8 y.doo) ∧ w'.cell? ⟨wr.heap.size, 1, none⟩ = some (.int .u32 y.l.id))) (by kernel_rfl) ?_ (fun hHeld0 => ?_)
          · (try dsimp only)
            exact K0.out
          refine takeN (v := ?_) 0 rfl (by kernel_rfl) (by kernel_rfl) (by kernel_rfl) (fun _ _ _ h => h) (by rfl) ?_ hHeld0 ?_
          rotate_left
          · intro w hSw; (try dsimp only at hSw); go_simp; with_reducible rfl
          try simp only [Act.put, List.setIfInBounds_toArray, List.set_cons_zero, List.set_cons_succ]
          refine takeN (v := ?_) 1 rfl (by kernel_rfl) (by kernel_rfl) (by kernel_rfl) (fun _ _ _ h => h) (by rfl) ?_ hHeld0 ?_
          rotate_left
          · intro w hSw; (try dsimp only at hSw); go_simp; with_reducible rfl
          try simp only [Act.put, List.setIfInBounds_toArray, List.set_cons_zero, List.set_cons_succ]
          refine takeN (v := ?_) 2 rfl (by kernel_rfl) (by kernel_rfl) (by kernel_rfl) (fun _ _ _ h => h) (by rfl) ?_ hHeld0 ?_
          rotate_left
          · intro w hSw; (try dsimp only at hSw); go_simp; with_reducible rfl
          try simp only [Act.put, List.setIfInBounds_toArray, List.set_cons_zero, List.set_cons_succ]
          refine takeN (v := ?_) 3 rfl (by kernel_rfl) (by kernel_rfl) (by kernel_rfl) (fun _ _ _ h => h) (by rfl) ?_ hHeld0 ?_
          rotate_left
          · intro w hSw; (try dsimp only at hSw); go_simp; with_reducible rfl
          try simp only [Act.put, List.setIfInBounds_toArray, List.set_cons_zero, List.set_cons_succ]
          refine takeN (v := ?_) 4 rfl (by kernel_rfl) (by kernel_rfl) (by kernel_rfl) (fun _ _ _ h => h) (by rfl) ?_ hHeld0 ?_
          rotate_left
          · intro w hSw; (try dsimp only at hSw); go_simp; with_reducible rfl
          try simp only [Act.put, List.setIfInBounds_toArray, List.set_cons_zero, List.set_cons_succ]
          refine skipN 5 rfl (by kernel_rfl) (by kernel_rfl) (by kernel_rfl) (fun _ _ _ h => h) (by rfl) hHeld0 ?_
          try simp only [Act.put, List.setIfInBounds_toArray, List.set_cons_zero, List.set_cons_succ]
          refine skipN 6 rfl (by kernel_rfl) (by kernel_rfl) (by kernel_rfl) (fun _ _ _ h => h) (by rfl) hHeld0 ?_
          try simp only [Act.put, List.setIfInBounds_toArray, List.set_cons_zero, List.set_cons_succ]
          refine skipN 7 rfl (by kernel_rfl) (by kernel_rfl) (by kernel_rfl) (fun _ _ _ h => h) (by rfl) hHeld0 ?_
          try simp only [Act.put, List.setIfInBounds_toArray, List.set_cons_zero, List.set_cons_succ]
          refine skipN 8 rfl (by kernel_rfl) (by kernel_rfl) (by kernel_rfl) (fun _ _ _ h => h) (by rfl) hHeld0 ?_
          try simp only [Act.put, List.setIfInBounds_toArray, List.set_cons_zero, List.set_cons_succ]
          refine skipN 9 rfl (by kernel_rfl) (by kernel_rfl) (by kernel_rfl) (fun _ _ _ h => h) (by rfl) hHeld0 ?_
          try simp only [Act.put, List.setIfInBounds_toArray, List.set_cons_zero, List.set_cons_succ]
          refine skipN 11 rfl (by kernel_rfl) (by kernel_rfl) (by kernel_rfl) (fun _ _ _ h => h) (by rfl) hHeld0 ?_
          try simp only [Act.put, List.setIfInBounds_toArray, List.set_cons_zero, List.set_cons_succ]
          refine skipN 12 rfl (by kernel_rfl) (by kernel_rfl) (by kernel_rfl) (fun _ _ _ h => h) (by rfl) hHeld0 ?_
          try simp only [Act.put, List.setIfInBounds_toArray, List.set_cons_zero, List.set_cons_succ]
          refine skipN 13 rfl (by kernel_rfl) (by kernel_rfl) (by kernel_rfl) (fun _ _ _ h => h) (by rfl) hHeld0 ?_
          try simp only [Act.put, List.setIfInBounds_toArray, List.set_cons_zero, List.set_cons_succ]
          refine skipN 14 rfl (by kernel_rfl) (by kernel_rfl) (by kernel_rfl) (fun _ _ _ h => h) (by rfl) hHeld0 ?_
          try simp only [Act.put, List.setIfInBounds_toArray, List.set_cons_zero, List.set_cons_succ]
          refine skipN 15 rfl (by kernel_rfl) (by kernel_rfl) (by kernel_rfl) (fun _ _ _ h => h) (by rfl) hHeld0 ?_
          try simp only [Act.put, List.setIfInBounds_toArray, List.set_cons_zero, List.set_cons_succ]
          refine wpAnyH_ready (rs := [10]) (by kernel_rfl) (by simp) ?_
          refine readyN rfl (fun K hK => ?_) ?_
          · -- operation 10
            refine Eq.mpr (if_neg (fun h => Bool.false_ne_true h)) ?_
            refine hK.out _ _ ?_ (fun hHeld1 => ?_)
            · (try dsimp only)
              exact K0.out
            clear hK K hHeld0
            try simp only [Act.put, List.setIfInBounds_toArray, List.set_cons_zero, List.set_cons_succ]
            refine wpAnyH_ready (rs := [16]) (by kernel_rfl) (by simp) ?_
            refine readyN rfl (fun K hK => ?_) ?_
            · -- operation 16
              refine Eq.mpr (if_neg (fun h => Bool.false_ne_true h)) ?_
              refine hK.out _ _ ?_ (fun hHeld2 => ?_)
              · (try dsimp only)
                exact K0.out
              clear hK K hHeld1
              try simp only [Act.put, List.setIfInBounds_toArray, List.set_cons_zero, List.set_cons_succ]
              refine skipN 17 rfl (by kernel_rfl) (by kernel_rfl) (by kernel_rfl) (fun _ _ _ h => h) (by rfl) hHeld2 ?_
              try simp only [Act.put, List.setIfInBounds_toArray, List.set_cons_zero, List.set_cons_succ]
              refine skipN 18 rfl (by kernel_rfl) (by kernel_rfl) (by kernel_rfl) (fun _ _ _ h => h) (by rfl) hHeld2 ?_
              try simp only [Act.put, List.setIfInBounds_toArray, List.set_cons_zero, List.set_cons_succ]
              refine skipN 19 rfl (by kernel_rfl) (by kernel_rfl) (by kernel_rfl) (fun _ _ _ h => h) (by rfl) hHeld2 ?_
              try simp only [Act.put, List.setIfInBounds_toArray, List.set_cons_zero, List.set_cons_succ]
              refine skipN 20 rfl (by kernel_rfl) (by kernel_rfl) (by kernel_rfl) (fun _ _ _ h => h) (by rfl) hHeld2 ?_
              try simp only [Act.put, List.setIfInBounds_toArray, List.set_cons_zero, List.set_cons_succ]
              refine skipN 21 rfl (by kernel_rfl) (by kernel_rfl) (by kernel_rfl) (fun _ _ _ h => h) (by rfl) hHeld2 ?_
              try simp only [Act.put, List.setIfInBounds_toArray, List.set_cons_zero, List.set_cons_succ]
              refine skipN 22 rfl (by kernel_rfl) (by kernel_rfl) (by kernel_rfl) (fun _ _ _ h => h) (by rfl) hHeld2 ?_
              try simp only [Act.put, List.setIfInBounds_toArray, List.set_cons_zero, List.set_cons_succ]
              refine skipN 23 rfl (by kernel_rfl) (by kernel_rfl) (by kernel_rfl) (fun _ _ _ h => h) (by rfl) hHeld2 ?_
              try simp only [Act.put, List.setIfInBounds_toArray, List.set_cons_zero, List.set_cons_succ]
              refine wpAnyH_ready (rs := [24]) (by kernel_rfl) (by simp) ?_
              refine readyN rfl (fun K hK => ?_) ?_
              · -- operation 24
                refine Eq.mpr (if_neg (fun h => Bool.false_ne_true h)) ?_
                refine hK.out _ _ ?_ (fun hHeld3 => ?_)
                · (try dsimp only)
                  exact K0.out
                clear hK K hHeld2
                try simp only [Act.put, List.setIfInBounds_toArray, List.set_cons_zero, List.set_cons_succ]
                refine skipN 25 rfl (by kernel_rfl) (by kernel_rfl) (by kernel_rfl) (fun _ _ _ h => h) (by rfl) hHeld3 ?_
                try simp only [Act.put, List.setIfInBounds_toArray, List.set_cons_zero, List.set_cons_succ]
                refine skipN 26 rfl (by kernel_rfl) (by kernel_rfl) (by kernel_rfl) (fun _ _ _ h => h) (by rfl) hHeld3 ?_
                try simp only [Act.put, List.setIfInBounds_toArray, List.set_cons_zero, List.set_cons_succ]
                refine takeN (v := ?_) 27 rfl (by kernel_rfl) (by kernel_rfl) (by kernel_rfl) (fun _ _ _ h => h) (by rfl) ?_ hHeld3 ?_
                rotate_left
                · intro w hSw; (try dsimp only at hSw); go_simp; with_reducible rfl
                try simp only [Act.put, List.setIfInBounds_toArray, List.set_cons_zero, List.set_cons_succ]
                refine wpAnyH_done (by kernel_rfl) ?_ _
                go_wp2_with fail
                go_roundw
                case rel => exact ⟨j + 1, by omega, by go_num, Lib.hid ⟨_, _, _, _, _, _, HM5d.out, HM5d'.out, HJ1.out, HJ2.out, HK3.out, HK4.out, HU.out.mono (by omega), HV'.out.mono (by omega), HQ1.out, HQ2.out, HQ3.out, HQ4.out⟩, HBD⟩
                case measure => simp [intOf]; omega
              exact AllReadyH.nil
            exact AllReadyH.nil
          exact AllReadyH.nil
      · have i1 : ¬ ((j : Int) < (l.length : Int)) := by omega
        go_wp2_with fail
        refine (HG.out _).mono ?_
        rintro e wf ⟨rfl, hb⟩
        have HBF := Lib.hid (HB3.out.trans (hb.mono HB3.out.size))
        clear hb
        go_wp2
        go_ret
        exact ⟨rfl, HBF.out⟩
end Go.Proofs.Ytidppalhjknlfaa
