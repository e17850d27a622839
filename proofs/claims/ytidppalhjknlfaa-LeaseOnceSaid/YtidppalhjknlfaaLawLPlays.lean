/- The walk of LeasePlays. -/
import Derived.Test.YtidppalhjknlfaaGoes20
import Derived.Test.YtidppalhjknlfaaActs20
namespace Go.Proofs.Ytidppalhjknlfaa
open Go.RowKit
set_option maxRecDepth 100000
set_option linter.unusedVariables false
set_option linter.unusedSimpArgs false
set_option maxHeartbeats 4000000
theorem RL.memk {w w' : World} {p b1 b2 : Nat} {r : Int} {now was : AL} {q : Nat} {v : Value} {L : List Ls} {last : Int} (h : RL w q v L last) (hm : MemIs w p r b1 b2 now was) (hk : Keep (fun i => i = b1) w w') : RL w' q v L last :=
  ⟨hk.blk h.blk (fun e => by subst e; obtain ⟨es, c, h1, _⟩ := hm.now; rw [h.blk] at h1; cases h1), h.lr.mem hm.now hk⟩
theorem MemIs.rlk {w w' : World} {p b1 b2 : Nat} {r : Int} {now was : AL} {q : Nat} {v : Value} {L : List Ls} {last : Int} (h : MemIs w p r b1 b2 now was) (hx : RL w q v L last) (hk : Keep (fun i => i = q) w w') : MemIs w' p r b1 b2 now was :=
  h.keep hk (fun e => by have h1 := h.blk; rw [e, hx.blk] at h1; simp only [Option.some.injEq, Obj.cells.injEq] at h1; exact absurd h1.2.1 (by decide))
    (fun e => by subst e; obtain ⟨es, c, h1, _⟩ := h.now; rw [hx.blk] at h1; cases h1)
    (fun e => by subst e; obtain ⟨es, c, h1, _⟩ := h.was; rw [hx.blk] at h1; cases h1)
/-- an act's box -/
def Box20 (w : World) (n : Nat) (x : A20) : Prop := w.heap[n]? = some (.cells #[.int .u8 x.doo, .int .u32 x.l.id, .int .i64 x.l.units, .int .i64 x.l.exp, .int .i64 x.l.day, .int .i64 x.l.month, .int .i64 x.now] 33 (0, 0))
theorem Box20.cells {w : World} {n : Nat} {x : A20} (h : Box20 w n x) : w.cell? ⟨n, 0, none⟩ = some (.int .u8 x.doo) ∧ w.cell? ⟨n, 1, none⟩ = some (.int .u32 x.l.id) ∧ w.cell? ⟨n, 2, none⟩ = some (.int .i64 x.l.units) ∧ w.cell? ⟨n, 3, none⟩ = some (.int .i64 x.l.exp) ∧ w.cell? ⟨n, 4, none⟩ = some (.int .i64 x.l.day) ∧ w.cell? ⟨n, 5, none⟩ = some (.int .i64 x.l.month) ∧ w.cell? ⟨n, 6, none⟩ = some (.int .i64 x.now) := by
  refine ⟨?_, ?_, ?_, ?_, ?_, ?_, ?_⟩ <;> rw [blk_cell h] <;> rfl
theorem Box20.keep {F : Nat → Prop} {w w' : World} {n : Nat} {x : A20} (h : Box20 w n x) (hk : Keep F w w') (hF : ¬ F n) : Box20 w' n x := hk.blk h hF
theorem Box20.below {w w' : World} {n : Nat} {x : A20} (h : Box20 w n x) (hb : Below w.heap.size w w') : Box20 w' n x := h.keep (Keep.ofBelow hb (fun _ => False)) (fun h => h)
/-- what both are behind j acts -/
def LP (t : Int) (w : World) (p b1 b2 q : Nat) (j : Nat) : Prop := ∃ now v L last, MemIs w p (-1) b1 b2 now [] ∧ LS now t L last ∧ St (2 * j) now ∧ RL w q v L last ∧ last ≤ j ∧ L.length ≤ 8
theorem live_len {L : List Ls} {m : Int} (h : L.length ≤ 8) : (live m L).length ≤ 8 := Nat.le_trans (List.length_filter_le _ _) h
theorem lplays_any (t : Int) (ht : U32 t) (lv : Value) (l : List A20) (w : World) (hL : AS20 w lv l) :
    Calls Try.prog 3 #[.int .u32 t, lv] w fun e w' => e = .returned (.bool true) ∧ Below w.heap.size w w' := by
  obtain ⟨la, lc, rfl⟩ : ∃ a c, lv = .slice a l.length c := by obtain ⟨a, c, h, _⟩ := hL; exact ⟨a, c, h⟩
  have HG := Lib.hid goes20
  have HL := Lib.hid hL
  clear hL
  by_cases hll : 100 < l.length
  · have i0 : (100 : Int) < (l.length : Int) := by omega
    clear hll
    go_enter Try.func3, Try.ntmps3
    go_wp2_with fail
    go_ret
    exact ⟨rfl, Below.refl _ _⟩
  · have i0 : ¬ (100 : Int) < (l.length : Int) := by omega
    go_enter Try.func3, Try.ntmps3
    go_wp2_with fail
    refine (new_any (-1) _).mono ?_
    rintro e w2 ⟨p, b1, b2, rfl, hp, hb1, hb2, hm, hb⟩
    have HS2 := Lib.hid (show LP t (w2.alloc (.cells #[.slice none 0 0, .int .u32 0] 29)) p b1 b2 w2.heap.size 0 from
      ⟨[], .slice none 0 0, [], 0, hm.below ((Below.refl _ _).alloc (Nat.le_refl _) _), LS.nil t, St.nil, ⟨blk_new w2 _, LR.nil _⟩, by simp, by simp⟩)
    have HB2 := Lib.hid (hb.alloc hb.size (.cells #[.slice none 0 0, .int .u32 0] 29))
    have HP := Lib.hid hb1
    have hq : w.heap.size ≤ w2.heap.size := hb.size
    clear hm hb hp hb1 hb2
    unfold pV
    go_wp2_with fail
    go_loopw [7] (fun i wr => ∃ j : Nat, j ≤ l.length ∧ i = .int .i64 j ∧ Hid (LP t wr p b1 b2 w2.heap.size j) ∧ Hid (Below w.heap.size w wr)) (fun i _ => l.length - (intOf i).toNat)
    case atStart => exact ⟨0, by omega, rfl, HS2, HB2⟩
    case round =>
      clear HS2 HB2
      obtain ⟨j, hj, rfl, HH, HB3⟩ := hrel
      obtain ⟨now, v, L, last, hS, hI, hT, hX, hla, hlen⟩ := HH.out
      by_cases hlt : j < l.length
      · obtain ⟨y, hy⟩ : ∃ y, l[j]? = some y := ⟨_, List.getElem?_eq_getElem hlt⟩
        obtain ⟨lb, lo, hlb, hok, c0, c1, c2, c3, c4, c5, c6⟩ := (HL.out.below HB3.out).at_ hy
        subst hlb
        have i2 : (j : Int) < (l.length : Int) := by omega
        have hst := hT.toSmall (by omega)
        obtain ⟨W, hW⟩ : ∃ W, W = wr.alloc (.cells #[.int .u8 y.doo, .int .u32 y.l.id, .int .i64 y.l.units, .int .i64 y.l.exp, .int .i64 y.l.day, .int .i64 y.l.month, .int .i64 y.now] 33) := ⟨_, rfl⟩
        have hbW : Below wr.heap.size wr W := by rw [hW]; exact (Below.refl _ _).alloc (Nat.le_refl _) _
        have hbox : Box20 W wr.heap.size y := by rw [hW]; exact blk_new wr _
        have hqr : w2.heap.size < wr.heap.size := blk_lt hX.blk
        have hbr : b1 < wr.heap.size := by obtain ⟨es, c, h1, _⟩ := hS.now; exact blk_lt h1
        have HBX := Lib.hid hbox
        have HSW := Lib.hid (hS.below hbW)
        have HXW := Lib.hid (hX.below hbW)
        have HI := Lib.hid hI
        have HT := Lib.hid hT
        have HST := Lib.hid hst
        have HOK := Lib.hid hok
        have HBW := Lib.hid (HB3.out.trans (hbW.mono HB3.out.size))
        have HLA := Lib.hid hla
        have HLN := Lib.hid hlen
        have hw3 : w.heap.size ≤ wr.heap.size := HB3.out.size
        have HOD := hok.d
        have h20 : L.length ≤ 1000000 := by omega
        obtain ⟨e0, e1, e2, e3, e4, e5, e6⟩ := hbox.cells
        rw [hW] at e0 e1 e2 e3 e4 e5 e6
        clear hS hI hT hX hbW hbox hy HH hok hla hlen hst
        go_upto_region 9 with fail
        rw [← hW] at e0 e1 e2 e3 e4 e5 e6 ⊢
        clear hW c0 c1 c2 c3 c4 c5 c6
        by_cases hn : -1125899906842624 ≤ y.now ∧ y.now ≤ 1125899906842624
        · obtain ⟨n0, n1⟩ := hn
          have i3 : ¬ y.now < -1125899906842624 := by omega
          have i4 : ¬ y.now > 1125899906842624 := by omega
          have hd3 : y.doo % 4 = 0 ∨ y.doo % 4 = 1 ∨ y.doo % 4 = 2 ∨ y.doo % 4 = 3 := by omega
          obtain ⟨d, hd⟩ : ∃ d, y.doo % 4 = d := ⟨_, rfl⟩
          rw [hd] at hd3
          have hdm : y.doo.tmod 4 = d := by rw [Int.tmod_eq_emod_of_nonneg (by omega)]; exact hd
          go_upto_region 11 with fail
          have hst2 := HI.out.lst
          have hla2 := HLA.out
          rcases hd3 with rfl | rfl | rfl | rfl
          · have HA := Lib.hid (ladd_any p b1 b2 now [] t ht L last y.l HOK.out.l y.now HOK.out.n W HSW.out HST.out HT.out.nd HI.out h20 (by omega))
            have RA := Lib.hid fun (w3 : World) (hx : RL w3 w2.heap.size v L last) => radd_any w2.heap.size v L last y.l HOK.out.l y.now n0 n1 w3 hx h20 hst2 (by omega)
            obtain ⟨I, hI⟩ : ∃ I, I = addI L last y.l y.now := ⟨_, rfl⟩
            obtain ⟨E, hE⟩ : ∃ E, E = addE L y.l y.now := ⟨_, rfl⟩
            rw [← hI, ← hE] at HA RA
            unfold sV Ls.val at HA
            unfold Ls.val at RA
            clear hI hE
            go_wp2_with fail
            refine HA.out.mono ?_
            rintro e w3 ⟨rfl, hm, hk⟩
            have HM3 := Lib.hid hm
            have HX3 := Lib.hid (HXW.out.memk HSW.out hk)
            have hbx3 := HBX.out.keep hk (fun e => by omega)
            have HBX3 := Lib.hid hbx3
            have HB4 := Lib.hid (HBW.out.trans (hk.below (B := w.heap.size) HBW.out.size (fun i hi => by subst hi; exact HP.out)))
            clear hm hk HA e0 e1 e2 e3 e4 e5 e6
            obtain ⟨e0, e1, e2, e3, e4, e5, e6⟩ := hbx3.cells
            clear hbx3
            go_wp2_with fail
            refine (RA.out w3 HX3.out).mono ?_
            rintro e w4 ⟨rfl, ⟨v', hx'⟩, hk⟩
            have HX4 := Lib.hid hx'
            have HM4 := Lib.hid (HM3.out.rlk HX3.out hk)
            have HB5 := Lib.hid (HB4.out.trans (hk.below (B := w.heap.size) HB4.out.size (fun i hi => by subst hi; exact hq)))
            clear hx' hk RA e0 e1 e2 e3 e4 e5 e6
            go_wp2_with fail
            refine ⟨⟨j + 1, by omega, by go_num, Lib.hid ⟨_, _, _, _, HM4.out, HI.out.addS HT.out.nd ht y.l HOK.out.l (by omega) y.now, (HT.out.addS t L last y.l y.now).mono (by omega), HX4.out, ?_, addL_len HLN.out⟩, HB5⟩, by simp [intOf]; omega⟩
            unfold addN; split <;> omega
          · have hg1 := lget_any p b1 b2 (-1) now [] t ht y.l.id L last y.now W HSW.out HST.out HT.out.nd HI.out h20
            have hg2 := fun (w3 : World) (hx : RL w3 w2.heap.size v L last) => rget_any w2.heap.size v L last y.l.id y.now w3 hx h20
            obtain ⟨G, hG⟩ : ∃ G, G = getV (getR L y.l.id y.now) := ⟨_, rfl⟩
            obtain ⟨E, hE⟩ : ∃ E, E = getE (getR L y.l.id y.now) := ⟨_, rfl⟩
            rw [← hG, ← hE] at hg1
            simp only [← hG, ← hE] at hg2
            clear hG hE
            obtain ⟨ga, gb, gc, gd, ge⟩ := G
            unfold sV Ls.val at hg1
            unfold Ls.val at hg2
            dsimp only at hg1 hg2
            have HG1 := Lib.hid hg1
            have HG2 := Lib.hid hg2
            clear hg1 hg2
            go_wp2_with fail
            refine HG1.out.mono ?_
            rintro e w3 ⟨rfl, hb⟩
            have hb3 : Below W.heap.size W (w3.alloc (.cells #[.int .u32 ga, .int .i64 gb, .int .i64 gc, .int .i64 gd, .int .i64 ge] 31)) := hb.alloc hb.size _
            have HM3 := Lib.hid (HSW.out.below hb3)
            have HX3 := Lib.hid (HXW.out.below hb3)
            have hbx3 := HBX.out.below hb3
            have HBX3 := Lib.hid hbx3
            have HB4 := Lib.hid (HBW.out.trans (hb3.mono HBW.out.size))
            have HZ3 := Lib.hid (blk_new w3 (.cells #[.int .u32 ga, .int .i64 gb, .int .i64 gc, .int .i64 gd, .int .i64 ge] 31))
            clear hb hb3 HG1 e0 e1 e2 e3 e4 e5 e6
            obtain ⟨e0, e1, e2, e3, e4, e5, e6⟩ := hbx3.cells
            clear hbx3
            go_wp2_with fail
            refine (HG2.out _ HX3.out).mono ?_
            rintro e w4 ⟨rfl, hb⟩
            have hb5 := hb.alloc hb.size (.cells #[.int .u32 ga, .int .i64 gb, .int .i64 gc, .int .i64 gd, .int .i64 ge] 31)
            have HM4 := Lib.hid (HM3.out.below hb5)
            have HX4 := Lib.hid (HX3.out.below hb5)
            have HB5 := Lib.hid (HB4.out.trans (hb5.mono HB4.out.size))
            have hz4 := (Keep.ofBelow hb5 (fun _ => False)).blk HZ3.out (fun h => h)
            have z0 := blk_cell hz4 0
            have z1 := blk_cell hz4 1
            have z2 := blk_cell hz4 2
            have z3 := blk_cell hz4 3
            have z4 := blk_cell hz4 4
            clear hb hb5 hz4 HG2 e0 e1 e2 e3 e4 e5 e6
            go_wp2_with fail
            refine ⟨⟨j + 1, by omega, by go_num, Lib.hid ⟨_, _, _, _, HM4.out, HI.out, HT.out.mono (by omega), HX4.out, by omega, HLN.out⟩, HB5⟩, by simp [intOf]; omega⟩
          · have hSd : MemIs W.drew p (-1) b1 b2 now [] := HSW.out.below ((Below.refl _ _).drew)
            have hXd : RL W.drew w2.heap.size v L last := HXW.out.below ((Below.refl _ _).drew)
            have hBd : Box20 W.drew wr.heap.size y := HBX.out.below ((Below.refl _ _).drew)
            have hd1 := ldrop_any p b1 b2 (-1) now [] t y.l.id ht HOK.out.l.id L last W.drew hSd HT.out.nd HI.out
            have hd2 := fun (w3 : World) (hx : RL w3 w2.heap.size v L last) => rdrop_any w2.heap.size v L last y.l.id HI.out.up w3 hx h20
            obtain ⟨E, hE⟩ : ∃ E, E = dropE L y.l.id := ⟨_, rfl⟩
            rw [← hE] at hd1
            simp only [← hE] at hd2
            unfold sV at hd1
            have HD1 := Lib.hid hd1
            have HD2 := Lib.hid hd2
            have HSD := Lib.hid hSd
            have HXD := Lib.hid hXd
            have HBXD := Lib.hid hBd
            have HBD := Lib.hid (show Below w.heap.size w W.drew from HBW.out.drew)
            have k0 : W.drew.cell? ⟨wr.heap.size, 1, none⟩ = some (.int .u32 y.l.id) := hBd.cells.2.1
            have K0 := Lib.hid k0
            clear hSd hXd hBd hd1 hd2 hE
            go_upto_region 22 with fail
            clear e0 e1 e2 e3 e4 e5 e6 i3 i4 i2 hdm
            refine wp_region_held_drew (S := (fun w' => w'.cell? ⟨wr.heap.size, 1, none⟩ = some (.int .u32 y.l.id))) (by kernel_rfl) ?_ (fun hHeld0 => ?_)
            · (try dsimp only)
              first | with_reducible exact K0.out | with_reducible exact K1.out | with_reducible exact K2.out
            refine takeN (v := ?_) 0 rfl (by kernel_rfl) (by kernel_rfl) (by kernel_rfl) (fun _ _ _ h => h) (by rfl) ?_ hHeld0 ?_
            rotate_left
            · intro w hSw; (try dsimp only at hSw); go_simp; with_reducible rfl
            try simp only [Act.put, List.setIfInBounds_toArray, List.set_cons_zero, List.set_cons_succ]
            refine takeN (v := ?_) 1 rfl (by kernel_rfl) (by kernel_rfl) (by kernel_rfl) (fun _ _ _ h => h) (by rfl) ?_ hHeld0 ?_
            rotate_left
            · intro w hSw; (try dsimp only at hSw); go_simp; with_reducible rfl
            try simp only [Act.put, List.setIfInBounds_toArray, List.set_cons_zero, List.set_cons_succ]
            refine takeN (v := ?_) 2 rfl (by kernel_rfl) (by kernel_rfl) (by kernel_rfl) (fun _ _ _ h => h) (by rfl) ?_ hHeld0 ?_
            rotate_left
            · intro w hSw; (try dsimp only at hSw); go_simp; with_reducible rfl
            try simp only [Act.put, List.setIfInBounds_toArray, List.set_cons_zero, List.set_cons_succ]
            refine takeN (v := ?_) 3 rfl (by kernel_rfl) (by kernel_rfl) (by kernel_rfl) (fun _ _ _ h => h) (by rfl) ?_ hHeld0 ?_
            rotate_left
            · intro w hSw; (try dsimp only at hSw); go_simp; with_reducible rfl
            try simp only [Act.put, List.setIfInBounds_toArray, List.set_cons_zero, List.set_cons_succ]
            refine takeN (v := ?_) 4 rfl (by kernel_rfl) (by kernel_rfl) (by kernel_rfl) (fun _ _ _ h => h) (by rfl) ?_ hHeld0 ?_
            rotate_left
            · intro w hSw; (try dsimp only at hSw); go_simp; with_reducible rfl
            try simp only [Act.put, List.setIfInBounds_toArray, List.set_cons_zero, List.set_cons_succ]
            refine takeN (v := ?_) 5 rfl (by kernel_rfl) (by kernel_rfl) (by kernel_rfl) (fun _ _ _ h => h) (by rfl) ?_ hHeld0 ?_
            rotate_left
            · intro w hSw; (try dsimp only at hSw); go_simp; with_reducible rfl
            try simp only [Act.put, List.setIfInBounds_toArray, List.set_cons_zero, List.set_cons_succ]
            refine takeN (v := ?_) 7 rfl (by kernel_rfl) (by kernel_rfl) (by kernel_rfl) (fun _ _ _ h => h) (by rfl) ?_ hHeld0 ?_
            rotate_left
            · intro w hSw; (try dsimp only at hSw); go_simp; with_reducible rfl
            try simp only [Act.put, List.setIfInBounds_toArray, List.set_cons_zero, List.set_cons_succ]
            refine takeN (v := ?_) 8 rfl (by kernel_rfl) (by kernel_rfl) (by kernel_rfl) (fun _ _ _ h => h) (by rfl) ?_ hHeld0 ?_
            rotate_left
            · intro w hSw; (try dsimp only at hSw); go_simp; with_reducible rfl
            try simp only [Act.put, List.setIfInBounds_toArray, List.set_cons_zero, List.set_cons_succ]
            refine takeN (v := ?_) 9 rfl (by kernel_rfl) (by kernel_rfl) (by kernel_rfl) (fun _ _ _ h => h) (by rfl) ?_ hHeld0 ?_
            rotate_left
            · intro w hSw; (try dsimp only at hSw); go_simp; with_reducible rfl
            try simp only [Act.put, List.setIfInBounds_toArray, List.set_cons_zero, List.set_cons_succ]
            refine takeN (v := ?_) 10 rfl (by kernel_rfl) (by kernel_rfl) (by kernel_rfl) (fun _ _ _ h => h) (by rfl) ?_ hHeld0 ?_
            rotate_left
            · intro w hSw; (try dsimp only at hSw); go_simp; with_reducible rfl
            try simp only [Act.put, List.setIfInBounds_toArray, List.set_cons_zero, List.set_cons_succ]
            refine wpAnyH_ready (rs := [6]) (by kernel_rfl) (by simp) ?_
            refine readyN rfl (fun K hK => ?_) ?_
            · -- operation 6
              go_simp
              first
                | (go_at_call 13
                   refine HD1.out.mono ?_
                   rintro e w3 ⟨rfl, hm, hk⟩
                   have HM3 := Lib.hid hm
                   have HX3 := Lib.hid (HXD.out.memk HSD.out hk)
                   have hbx3 := HBXD.out.keep hk (fun e => by omega)
                   have HBX3 := Lib.hid hbx3
                   have K1 := Lib.hid hbx3.cells.2.1
                   have HB4 := Lib.hid (HBD.out.trans (hk.below (B := w.heap.size) HBD.out.size (fun i hi => by subst hi; exact HP.out)))
                   clear hm hk hbx3 HD1)
                | (go_at_call 14
                   refine (HD2.out _ HX3.out).mono ?_
                   rintro e w4 ⟨rfl, ⟨v', hx'⟩, hk⟩
                   have HX4 := Lib.hid hx'
                   have HM4 := Lib.hid (HM3.out.rlk HX3.out hk)
                   have K2 := Lib.hid (HBX3.out.keep hk (fun e => by omega)).cells.2.1
                   have HB5 := Lib.hid (HB4.out.trans (hk.below (B := w.heap.size) HB4.out.size (fun i hi => by subst hi; exact hq)))
                   clear hx' hk HD2)
              go_wp2_with fail
              refine hK.out _ _ ?_ (fun hHeld1 => ?_)
              · (try dsimp only)
                first | with_reducible exact K0.out | with_reducible exact K1.out | with_reducible exact K2.out
              clear hK K hHeld0
              try simp only [Act.put, List.setIfInBounds_toArray, List.set_cons_zero, List.set_cons_succ]
              refine wpAnyH_ready (rs := [11]) (by kernel_rfl) (by simp) ?_
              refine readyN rfl (fun K hK => ?_) ?_
              · -- operation 11
                go_simp
                first
                  | (go_at_call 13
                     refine HD1.out.mono ?_
                     rintro e w3 ⟨rfl, hm, hk⟩
                     have HM3 := Lib.hid hm
                     have HX3 := Lib.hid (HXD.out.memk HSD.out hk)
                     have hbx3 := HBXD.out.keep hk (fun e => by omega)
                     have HBX3 := Lib.hid hbx3
                     have K1 := Lib.hid hbx3.cells.2.1
                     have HB4 := Lib.hid (HBD.out.trans (hk.below (B := w.heap.size) HBD.out.size (fun i hi => by subst hi; exact HP.out)))
                     clear hm hk hbx3 HD1)
                  | (go_at_call 14
                     refine (HD2.out _ HX3.out).mono ?_
                     rintro e w4 ⟨rfl, ⟨v', hx'⟩, hk⟩
                     have HX4 := Lib.hid hx'
                     have HM4 := Lib.hid (HM3.out.rlk HX3.out hk)
                     have K2 := Lib.hid (HBX3.out.keep hk (fun e => by omega)).cells.2.1
                     have HB5 := Lib.hid (HB4.out.trans (hk.below (B := w.heap.size) HB4.out.size (fun i hi => by subst hi; exact hq)))
                     clear hx' hk HD2)
                go_wp2_with fail
                refine hK.out _ _ ?_ (fun hHeld2 => ?_)
                · (try dsimp only)
                  first | with_reducible exact K0.out | with_reducible exact K1.out | with_reducible exact K2.out
                clear hK K hHeld1
                try simp only [Act.put, List.setIfInBounds_toArray, List.set_cons_zero, List.set_cons_succ]
                refine takeN (v := ?_) 12 rfl (by kernel_rfl) (by kernel_rfl) (by kernel_rfl) (fun _ _ _ h => h) (by rfl) ?_ hHeld2 ?_
                rotate_left
                · intro w hSw; (try dsimp only at hSw); go_simp; with_reducible rfl
                try simp only [Act.put, List.setIfInBounds_toArray, List.set_cons_zero, List.set_cons_succ]
                refine wpAnyH_done (by kernel_rfl) ?_ _
                go_wp2_with fail
                go_roundw
                case rel => exact ⟨j + 1, by omega, by go_num, Lib.hid ⟨_, _, _, _, HM4.out, HI.out.del HT.out.nd ht HOK.out.l.id, (HT.out.del _).mono (by omega), HX4.out, by omega, Nat.le_trans (List.length_filter_le _ _) HLN.out⟩, HB5⟩
                case measure => simp [intOf]; omega
              exact AllReadyH.nil
            exact AllReadyH.nil
          · have HL1 := Lib.hid (llive_any p b1 b2 (-1) now [] t ht L last y.now W HSW.out HST.out HT.out.nd HI.out h20)
            have HL2 := Lib.hid fun (w3 : World) (hx : RL w3 w2.heap.size v L last) => rlive_any w2.heap.size v L last y.now w3 hx h20
            have hll2 : (live y.now L).length ≤ 1000000 := by have := live_len (m := y.now) HLN.out; omega
            unfold sV at HL1
            go_wp2_with fail
            refine HL1.out.mono ?_
            rintro e w3 ⟨v3, rfl, hr, hb⟩
            obtain ⟨a3, c3, rfl, _, _, _⟩ := hr.shape
            have HM3 := Lib.hid (HSW.out.below hb)
            have HX3 := Lib.hid (HXW.out.below hb)
            have hbx3 := HBX.out.below hb
            have HBX3 := Lib.hid hbx3
            have HB4 := Lib.hid (HBW.out.trans (hb.mono HBW.out.size))
            have HR3 := Lib.hid hr
            clear hb hr HL1 e0 e1 e2 e3 e4 e5 e6
            obtain ⟨e0, e1, e2, e3, e4, e5, e6⟩ := hbx3.cells
            clear hbx3
            go_wp2_with fail
            refine (HL2.out _ HX3.out).mono ?_
            rintro e w4 ⟨v4, rfl, hr, hb⟩
            have hr4 := LR.of_row hr
            obtain ⟨a4, c4, rfl, _, _, _⟩ := hr4.shape
            have HM4 := Lib.hid (HM3.out.below hb)
            have HX4 := Lib.hid (HX3.out.below hb)
            have hbx4 := HBX3.out.below hb
            have HBX4 := Lib.hid hbx4
            have HB5 := Lib.hid (HB4.out.trans (hb.mono HB4.out.size))
            have HR4 := Lib.hid (HR3.out.below hb)
            have HRR4 := Lib.hid hr4
            clear hb hr hr4 HL2 e0 e1 e2 e3 e4 e5 e6 HM3 HX3 HBX3 HB4 HR3
            obtain ⟨e0, e1, e2, e3, e4, e5, e6⟩ := hbx4.cells
            clear hbx4
            obtain ⟨D, hD⟩ : ∃ D, D = heldD (live y.now L) y.l.day := ⟨_, rfl⟩
            obtain ⟨M, hM⟩ : ∃ M, M = heldM (live y.now L) y.l.month := ⟨_, rfl⟩
            go_wp2_with fail
            refine (lheld_any _ (live y.now L) y.l.day y.l.month w4 HR4.out hll2).mono ?_
            rw [← hD, ← hM]
            rintro e w5 ⟨rfl, hb⟩
            have HM5 := Lib.hid (HM4.out.below hb)
            have HX5 := Lib.hid (HX4.out.below hb)
            have hbx5 := HBX4.out.below hb
            have HB6 := Lib.hid (HB5.out.trans (hb.mono HB5.out.size))
            have HR5 := Lib.hid (HR4.out.below hb)
            have HRR5 := Lib.hid (HRR4.out.below hb)
            clear hb e0 e1 e2 e3 e4 e5 e6 HM4 HX4 HBX4 HB5 HR4 HRR4
            obtain ⟨e0, e1, e2, e3, e4, e5, e6⟩ := hbx5.cells
            clear hbx5
            go_wp2_with fail
            refine (rheld_any _ (live y.now L) y.l.day y.l.month w5 HRR5.out hll2).mono ?_
            rw [← hD, ← hM]
            rintro e w6 ⟨rfl, hw⟩
            obtain rfl := hw.symm
            clear hD hM
            go_wp2_with fail
            refine (leases_any _ _ (live y.now L) _ HR5.out HRR5.out hll2).mono ?_
            rintro e w7 ⟨rfl, hb⟩
            have HM7 := Lib.hid (HM5.out.below hb)
            have HX7 := Lib.hid (HX5.out.below hb)
            have HB7 := Lib.hid (HB6.out.trans (hb.mono HB6.out.size))
            clear hb e0 e1 e2 e3 e4 e5 e6 HM5 HX5 HB6 HR5 HRR5
            go_wp2_with fail
            refine ⟨⟨j + 1, by omega, by go_num, Lib.hid ⟨_, _, _, _, HM7.out, HI.out, HT.out.mono (by omega), HX7.out, by omega, HLN.out⟩, HB7⟩, by simp [intOf]; omega⟩
        · have hnn : y.now < -1125899906842624 ∨ (¬ y.now < -1125899906842624 ∧ y.now > 1125899906842624) := by omega
          clear hn
          rcases hnn with k1 | ⟨k1, k2⟩
          all_goals
            go_wp2_with fail
            refine ⟨⟨j + 1, by omega, by go_num, Lib.hid ⟨now, v, L, last, HSW.out, HI.out, HT.out.mono (by omega), HXW.out, by have := HLA.out; omega, HLN.out⟩, HBW⟩, by simp [intOf]; omega⟩
      · have i1 : ¬ ((j : Int) < (l.length : Int)) := by omega
        go_wp2_with fail
        refine (HG.out _).mono ?_
        rintro e wf ⟨rfl, hb⟩
        have HBF := Lib.hid (HB3.out.trans (hb.mono HB3.out.size))
        clear hb
        go_wp2
        go_ret
        exact ⟨rfl, HBF.out⟩
end Go.Proofs.Ytidppalhjknlfaa
