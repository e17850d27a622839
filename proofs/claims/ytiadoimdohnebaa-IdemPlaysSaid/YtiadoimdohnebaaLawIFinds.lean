/- The walk of IdemFinds. -/
import Derived.Test.YtiadoimdohnebaaIdBox
import Derived.Test.YtiadoimdohnebaaReg
namespace Go.Proofs.Ytiadoimdohnebaa
open Go.RowKit
set_option maxRecDepth 100000
set_option linter.unusedVariables false
set_option linter.unusedSimpArgs false
set_option maxHeartbeats 4000000
theorem AS8.one (w : World) (x : A18) (hx : x.Ok) : AS8 (w.alloc (.cells #[.int .u8 x.doo, .int .u32 x.ten, .string x.text, .string x.body, .string x.reply, .int .u64 x.seq] 59)) (.slice (some ⟨w.heap.size, 0, none⟩) 1 1) [x] := by
  refine ⟨_, _, rfl, by simp [maxLen], fun i z hz => ?_, .inr ⟨_, 0, rfl, fun i z hz => ?_⟩⟩
  · match i, hz with
    | 0, hz => cases hz; exact hx
    | i + 1, hz => simp at hz
  · match i, hz with
    | 0, hz => cases hz; refine ⟨?_, ?_, ?_, ?_, ?_, ?_⟩ <;> (rw [blk_cell (blk_new w _)]; rfl)
    | i + 1, hz => simp at hz
theorem ifinds_any (lv : Value) (l : List A18) (x : A18) (w : World) (hL : AS8 w lv l) (hx : x.Ok) :
    Calls Try.prog 11 #[lv, .agg x.cells.toArray] w fun e w' => e = .returned (.bool true) ∧ Below w.heap.size w w' := by
  obtain ⟨la, lc, rfl⟩ : ∃ a c, lv = .slice a l.length c := by obtain ⟨a, c, h, _⟩ := hL; exact ⟨a, c, h⟩
  have HG := Lib.hid goes18
  have hb0 : Below w.heap.size w (w.alloc (.cells x.cells.toArray 59)) := (Below.refl _ _).alloc (Nat.le_refl _) _
  have GL := Lib.hid (great18_any _ l _ (hL.below hb0))
  have GX := Lib.hid (great18_any _ [x] _ (AS8.one (w.alloc (.cells x.cells.toArray 59)) x hx))
  have hb1 := hb0.alloc hb0.size (.cells #[.int .u8 x.doo, .int .u32 x.ten, .string x.text, .string x.body, .string x.reply, .int .u64 x.seq] 59)
  have hbox : Box8 ((w.alloc (.cells x.cells.toArray 59)).alloc (.cells #[.int .u8 x.doo, .int .u32 x.ten, .string x.text, .string x.body, .string x.reply, .int .u64 x.seq] 59)) w.heap.size x := blk_alloc (blk_new w _) _
  rw [show (w.alloc (.cells x.cells.toArray 59)).heap.size = w.heap.size + 1 by simp] at GX
  simp only [A18.cells] at GL GX hb0 hb1 hbox ⊢
  have HB0 := Lib.hid hb0
  have HB1 := Lib.hid hb1
  have BX1 := Lib.hid hbox
  have HX := Lib.hid hx
  have HL := Lib.hid hL
  clear hL hb0 hb1 hbox hx
  cases hg1 : gr18 l with
  | true =>
    have G := Lib.hid hg1
    clear hg1
    go_enter Try.func11, Try.ntmps11
    go_wp2_with fail
    refine GL.out.mono ?_
    rintro e w1 ⟨rfl, rfl⟩
    rw [G.out]
    go_wp2
    go_ret
    exact ⟨rfl, HB0.out⟩
  | false =>
    have G1 := Lib.hid hg1
    clear hg1
    cases hg2 : gr18 [x] with
    | true =>
      have G := Lib.hid hg2
      clear hg2
      go_enter Try.func11, Try.ntmps11
      go_wp2_with fail
      refine GL.out.mono ?_
      rintro e w1 ⟨rfl, rfl⟩
      rw [G1.out]
      go_wp2_with fail
      refine GX.out.mono ?_
      rintro e w1 ⟨rfl, rfl⟩
      rw [G.out]
      go_wp2
      go_ret
      exact ⟨rfl, HB1.out⟩
    | false =>
      have SX := Lib.hid (big18_false ((gr18_false hg2).2 0 x rfl))
      have SL := Lib.hid (gr18_false G1.out)
      have hll : l.length ≤ 100 := SL.out.1
      have G2 := Lib.hid hg2
      clear hg2
      obtain ⟨fb, gb, eb, sb, lb⟩ := conv_ex x.body (by have := SX.out; omega)
      have SB := Lib.hid sb
      have LB := Lib.hid lb
      clear sb lb
      go_enter Try.func11, Try.ntmps11
      go_wp2_with fail
      refine GL.out.mono ?_
      rintro e w1 ⟨rfl, rfl⟩
      rw [G1.out]
      go_wp2_with fail
      refine GX.out.mono ?_
      rintro e w1 ⟨rfl, rfl⟩
      rw [G2.out]
      go_wp2_with fail
      refine (new_any (-1) _).mono ?_
      rintro e w2 ⟨p, b1, b2, rfl, hp, hb1, hb2, hm, hb⟩
      have HS2 := Lib.hid hm
      have HB2 := Lib.hid (HB1.out.trans (hb.mono HB1.out.size))
      have BX2 := Lib.hid (BX1.out.below hb)
      have HP := Lib.hid (Nat.le_trans HB1.out.size hb1)
      clear hm hb hp hb1 hb2 GL GX BX1 HB0 HB1 G1 G2
      unfold pV
      go_wp2_with fail
      go_loopw [6] (fun i wr => ∃ j : Nat, j ≤ l.length ∧ i = .int .i64 j ∧ Hid (∃ now F, MemIs wr p (-1) b1 b2 now [] ∧ Idx now F ∧ St j now) ∧ Hid (Box8 wr w.heap.size x) ∧ Hid (Below w.heap.size w wr)) (fun i _ => l.length - (intOf i).toNat)
      case atStart => exact ⟨0, by omega, rfl, Lib.hid ⟨[], F0, HS2.out, idx0, St.nil⟩, BX2, HB2⟩
      case round =>
        clear HS2 BX2 HB2
        obtain ⟨j, hj, rfl, HH, BX3, HB3⟩ := hrel
        obtain ⟨now, F, hS, hI, hT⟩ := HH.out
        have HS3 := Lib.hid hS
        have HI := Lib.hid hI
        have HT := Lib.hid hT
        clear hS hI hT HH
        by_cases hlt : j < l.length
        · obtain ⟨y, hy⟩ : ∃ y, l[j]? = some y := ⟨_, List.getElem?_eq_getElem hlt⟩
          obtain ⟨lb, lo, hla, hok, c0, c1, c2, c3, c4, c5⟩ := (HL.out.below HB3.out).at_ hy
          subst hla
          have hsm := big18_false (SL.out.2 j y hy)
          have SY := Lib.hid hsm
          have HY := Lib.hid hok
          have hl : now.length ≤ 9223372036854775807 := by have := HT.out.len; omega
          have i1 : decide ((j : Int) < (l.length : Int)) = true := decide_eq_true (by omega)
          have i2 : (j : Int) < (l.length : Int) := by omega
          obtain ⟨fb', gb', eb', sb', lb'⟩ := conv_ex y.body (by omega)
          obtain ⟨fp, gp, ep, sp, lp⟩ := conv_ex y.reply (by omega)
          have SB' := Lib.hid sb'
          have LB' := Lib.hid lb'
          have SP := Lib.hid sp
          have LP := Lib.hid lp
          have hne : ¬ lb = b1 := fun e => by have h' := c0; rw [e, HS3.out.now.nocell] at h'; cases h'
          have NE := Lib.hid hne
          have F1 := Lib.hid (below_and (LB'.out wr.drew) (LP.out (gb' wr.drew)))
          have F2 := Lib.hid (below_and (LP.out wr.drew) (LB'.out (gp wr.drew)))
          have hSd : MemIs wr.drew p (-1) b1 b2 now [] := HS3.out.below ((Below.refl _ _).drew)
          have pa := fun (W : World) (u v : Value) (hb : Below wr.drew.heap.size wr.drew W) (g1 : BS W u y.body) (g2 : BS W v y.reply) => keep_any p (-1) b1 b2 now [] F y.ten hok.t.1 hok.t.2 y.text y.toRec u v W (hSd.below hb) HI.out hok.x g1 g2 (by show y.body.size ≤ _; omega) (by show y.reply.size ≤ _; omega) hok.s hl
          simp only [sV, pV, show y.toRec.seq = y.seq from rfl] at pa
          have PA := Lib.hid pa
          have s0 : wr.drew.cell? ⟨lb, lo + j * 6 + 1, none⟩ = some (.int .u32 y.ten) ∧ wr.drew.cell? ⟨lb, lo + j * 6 + 2, none⟩ = some (.string y.text) ∧ wr.drew.cell? ⟨lb, lo + j * 6 + 3, none⟩ = some (.string y.body) ∧ wr.drew.cell? ⟨lb, lo + j * 6 + 4, none⟩ = some (.string y.reply) ∧ wr.drew.cell? ⟨lb, lo + j * 6 + 5, none⟩ = some (.int .u64 y.seq) := ⟨c1, c2, c3, c4, c5⟩
          have S0 := Lib.hid s0
          have SS := Lib.hid fun (P : Nat → Prop) (W : World) (hk : Keep P wr.drew W) (hn : ¬ P lb) => And.intro (hk.cell s0.1 hn) (And.intro (hk.cell s0.2.1 hn) (And.intro (hk.cell s0.2.2.1 hn) (And.intro (hk.cell s0.2.2.2.1 hn) (hk.cell s0.2.2.2.2 hn))))
          have HBd := Lib.hid (show Below w.heap.size w wr.drew from HB3.out.drew)
          have BXd := Lib.hid (show Box8 wr.drew w.heap.size x from BX3.out)
          have HSD := Lib.hid hSd
          clear hok hy hsm hne hSd pa s0 c0 c1 c2 c3 c4 c5 sb' lb' sp lp eb
          go_wp2_with fail
          refine wp_region_held_drew (S := (fun w' => w'.cell? ⟨lb, lo + j * 6 + 1, none⟩ = some (.int .u32 y.ten) ∧ w'.cell? ⟨lb, lo + j * 6 + 2, none⟩ = some (.string y.text) ∧ w'.cell? ⟨lb, lo + j * 6 + 3, none⟩ = some (.string y.body) ∧ w'.cell? ⟨lb, lo + j * 6 + 4, none⟩ = some (.string y.reply) ∧ w'.cell? ⟨lb, lo + j * 6 + 5, none⟩ = some (.int .u64 y.seq))) (by kernel_rfl) ?_ (fun hHeld0 => ?_)
          · (try dsimp only)
            first | exact S0.out | exact SS.out (fun _ => False) _ (Keep.ofBelow (LB'.out _) _) (fun h => h) | exact SS.out (fun _ => False) _ (Keep.ofBelow (LP.out _) _) (fun h => h) | exact SS.out (fun _ => False) _ (Keep.ofBelow F1.out _) (fun h => h) | exact SS.out (fun _ => False) _ (Keep.ofBelow F2.out _) (fun h => h) | exact SZ
          refine takeN (v := ?_) 0 rfl (by kernel_rfl) (by kernel_rfl) (by kernel_rfl) (fun _ _ _ h => h) (by rfl) ?_ hHeld0 ?_
          rotate_left
          · intro w hSw; (try dsimp only at hSw); go_simp; with_reducible rfl
          try simp only [Act.put, List.setIfInBounds_toArray, List.set_cons_zero, List.set_cons_succ]
          refine takeN (v := ?_) 1 rfl (by kernel_rfl) (by kernel_rfl) (by kernel_rfl) (fun _ _ _ h => h) (by rfl) ?_ hHeld0 ?_
          rotate_left
          · intro w hSw; (try dsimp only at hSw); go_simp; with_reducible rfl
          try simp only [Act.put, List.setIfInBounds_toArray, List.set_cons_zero, List.set_cons_succ]
          refine takeN (v := ?_) 2 rfl (by kernel_rfl) (by kernel_rfl) (by kernel_rfl) (fun _ _ _ h => h) (by rfl) ?_ hHeld0 ?_
          rotate_left
          · intro w hSw; (try dsimp only at hSw); go_simp; with_reducible rfl
          try simp only [Act.put, List.setIfInBounds_toArray, List.set_cons_zero, List.set_cons_succ]
          refine takeN (v := ?_) 3 rfl (by kernel_rfl) (by kernel_rfl) (by kernel_rfl) (fun _ _ _ h => h) (by rfl) ?_ hHeld0 ?_
          rotate_left
          · intro w hSw; (try dsimp only at hSw); go_simp; with_reducible rfl
          try simp only [Act.put, List.setIfInBounds_toArray, List.set_cons_zero, List.set_cons_succ]
          refine takeN (v := ?_) 4 rfl (by kernel_rfl) (by kernel_rfl) (by kernel_rfl) (fun _ _ _ h => h) (by rfl) ?_ hHeld0 ?_
          rotate_left
          · intro w hSw; (try dsimp only at hSw); go_simp; with_reducible rfl
          try simp only [Act.put, List.setIfInBounds_toArray, List.set_cons_zero, List.set_cons_succ]
          refine takeN (v := ?_) 5 rfl (by kernel_rfl) (by kernel_rfl) (by kernel_rfl) (fun _ _ _ h => h) (by rfl) ?_ hHeld0 ?_
          rotate_left
          · intro w hSw; (try dsimp only at hSw); go_simp; with_reducible rfl
          try simp only [Act.put, List.setIfInBounds_toArray, List.set_cons_zero, List.set_cons_succ]
          refine takeN (v := ?_) 6 rfl (by kernel_rfl) (by kernel_rfl) (by kernel_rfl) (fun _ _ _ h => h) (by rfl) ?_ hHeld0 ?_
          rotate_left
          · intro w hSw; (try dsimp only at hSw); go_simp; with_reducible rfl
          try simp only [Act.put, List.setIfInBounds_toArray, List.set_cons_zero, List.set_cons_succ]
          refine takeN (v := ?_) 7 rfl (by kernel_rfl) (by kernel_rfl) (by kernel_rfl) (fun _ _ _ h => h) (by rfl) ?_ hHeld0 ?_
          rotate_left
          · intro w hSw; (try dsimp only at hSw); go_simp; with_reducible rfl
          try simp only [Act.put, List.setIfInBounds_toArray, List.set_cons_zero, List.set_cons_succ]
          refine takeN (v := ?_) 8 rfl (by kernel_rfl) (by kernel_rfl) (by kernel_rfl) (fun _ _ _ h => h) (by rfl) ?_ hHeld0 ?_
          rotate_left
          · intro w hSw; (try dsimp only at hSw); go_simp; with_reducible rfl
          try simp only [Act.put, List.setIfInBounds_toArray, List.set_cons_zero, List.set_cons_succ]
          refine takeN (v := ?_) 9 rfl (by kernel_rfl) (by kernel_rfl) (by kernel_rfl) (fun _ _ _ h => h) (by rfl) ?_ hHeld0 ?_
          rotate_left
          · intro w hSw; (try dsimp only at hSw); go_simp; with_reducible rfl
          try simp only [Act.put, List.setIfInBounds_toArray, List.set_cons_zero, List.set_cons_succ]
          refine takeN (v := ?_) 10 rfl (by kernel_rfl) (by kernel_rfl) (by kernel_rfl) (fun _ _ _ h => h) (by rfl) ?_ hHeld0 ?_
          rotate_left
          · intro w hSw; (try dsimp only at hSw); go_simp; with_reducible rfl
          try simp only [Act.put, List.setIfInBounds_toArray, List.set_cons_zero, List.set_cons_succ]
          refine takeN (v := ?_) 11 rfl (by kernel_rfl) (by kernel_rfl) (by kernel_rfl) (fun _ _ _ h => h) (by rfl) ?_ hHeld0 ?_
          rotate_left
          · intro w hSw; (try dsimp only at hSw); go_simp; with_reducible rfl
          try simp only [Act.put, List.setIfInBounds_toArray, List.set_cons_zero, List.set_cons_succ]
          refine takeN (v := ?_) 12 rfl (by kernel_rfl) (by kernel_rfl) (by kernel_rfl) (fun _ _ _ h => h) (by rfl) ?_ hHeld0 ?_
          rotate_left
          · intro w hSw; (try dsimp only at hSw); go_simp; with_reducible rfl
          try simp only [Act.put, List.setIfInBounds_toArray, List.set_cons_zero, List.set_cons_succ]
          refine takeN (v := ?_) 13 rfl (by kernel_rfl) (by kernel_rfl) (by kernel_rfl) (fun _ _ _ h => h) (by rfl) ?_ hHeld0 ?_
          rotate_left
          · intro w hSw; (try dsimp only at hSw); go_simp; with_reducible rfl
          try simp only [Act.put, List.setIfInBounds_toArray, List.set_cons_zero, List.set_cons_succ]
          refine takeN (v := ?_) 14 rfl (by kernel_rfl) (by kernel_rfl) (by kernel_rfl) (fun _ _ _ h => h) (by rfl) ?_ hHeld0 ?_
          rotate_left
          · intro w hSw; (try dsimp only at hSw); go_simp; with_reducible rfl
          try simp only [Act.put, List.setIfInBounds_toArray, List.set_cons_zero, List.set_cons_succ]
          refine takeN (v := ?_) 15 rfl (by kernel_rfl) (by kernel_rfl) (by kernel_rfl) (fun _ _ _ h => h) (by rfl) ?_ hHeld0 ?_
          rotate_left
          · intro w hSw; (try dsimp only at hSw); go_simp; with_reducible rfl
          try simp only [Act.put, List.setIfInBounds_toArray, List.set_cons_zero, List.set_cons_succ]
          refine takeN (v := ?_) 16 rfl (by kernel_rfl) (by kernel_rfl) (by kernel_rfl) (fun _ _ _ h => h) (by rfl) ?_ hHeld0 ?_
          rotate_left
          · intro w hSw; (try dsimp only at hSw); go_simp; with_reducible rfl
          try simp only [Act.put, List.setIfInBounds_toArray, List.set_cons_zero, List.set_cons_succ]
          refine takeN (v := ?_) 18 rfl (by kernel_rfl) (by kernel_rfl) (by kernel_rfl) (fun _ _ _ h => h) (by rfl) ?_ hHeld0 ?_
          rotate_left
          · intro w hSw; (try dsimp only at hSw); go_simp; with_reducible rfl
          try simp only [Act.put, List.setIfInBounds_toArray, List.set_cons_zero, List.set_cons_succ]
          refine takeN (v := ?_) 19 rfl (by kernel_rfl) (by kernel_rfl) (by kernel_rfl) (fun _ _ _ h => h) (by rfl) ?_ hHeld0 ?_
          rotate_left
          · intro w hSw; (try dsimp only at hSw); go_simp; with_reducible rfl
          try simp only [Act.put, List.setIfInBounds_toArray, List.set_cons_zero, List.set_cons_succ]
          refine takeN (v := ?_) 20 rfl (by kernel_rfl) (by kernel_rfl) (by kernel_rfl) (fun _ _ _ h => h) (by rfl) ?_ hHeld0 ?_
          rotate_left
          · intro w hSw; (try dsimp only at hSw); go_simp; with_reducible rfl
          try simp only [Act.put, List.setIfInBounds_toArray, List.set_cons_zero, List.set_cons_succ]
          refine takeN (v := ?_) 21 rfl (by kernel_rfl) (by kernel_rfl) (by kernel_rfl) (fun _ _ _ h => h) (by rfl) ?_ hHeld0 ?_
          rotate_left
          · intro w hSw; (try dsimp only at hSw); go_simp; with_reducible rfl
          try simp only [Act.put, List.setIfInBounds_toArray, List.set_cons_zero, List.set_cons_succ]
          refine takeN (v := ?_) 22 rfl (by kernel_rfl) (by kernel_rfl) (by kernel_rfl) (fun _ _ _ h => h) (by rfl) ?_ hHeld0 ?_
          rotate_left
          · intro w hSw; (try dsimp only at hSw); go_simp; with_reducible rfl
          try simp only [Act.put, List.setIfInBounds_toArray, List.set_cons_zero, List.set_cons_succ]
          refine takeN (v := ?_) 24 rfl (by kernel_rfl) (by kernel_rfl) (by kernel_rfl) (fun _ _ _ h => h) (by rfl) ?_ hHeld0 ?_
          rotate_left
          · intro w hSw; (try dsimp only at hSw); go_simp; with_reducible rfl
          try simp only [Act.put, List.setIfInBounds_toArray, List.set_cons_zero, List.set_cons_succ]
          refine takeN (v := ?_) 25 rfl (by kernel_rfl) (by kernel_rfl) (by kernel_rfl) (fun _ _ _ h => h) (by rfl) ?_ hHeld0 ?_
          rotate_left
          · intro w hSw; (try dsimp only at hSw); go_simp; with_reducible rfl
          try simp only [Act.put, List.setIfInBounds_toArray, List.set_cons_zero, List.set_cons_succ]
          refine takeN (v := ?_) 26 rfl (by kernel_rfl) (by kernel_rfl) (by kernel_rfl) (fun _ _ _ h => h) (by rfl) ?_ hHeld0 ?_
          rotate_left
          · intro w hSw; (try dsimp only at hSw); go_simp; with_reducible rfl
          try simp only [Act.put, List.setIfInBounds_toArray, List.set_cons_zero, List.set_cons_succ]
          refine takeN (v := ?_) 27 rfl (by kernel_rfl) (by kernel_rfl) (by kernel_rfl) (fun _ _ _ h => h) (by rfl) ?_ hHeld0 ?_
          rotate_left
          · intro w hSw; (try dsimp only at hSw); go_simp; with_reducible rfl
          try simp only [Act.put, List.setIfInBounds_toArray, List.set_cons_zero, List.set_cons_succ]
          refine takeN (v := ?_) 28 rfl (by kernel_rfl) (by kernel_rfl) (by kernel_rfl) (fun _ _ _ h => h) (by rfl) ?_ hHeld0 ?_
          rotate_left
          · intro w hSw; (try dsimp only at hSw); go_simp; with_reducible rfl
          try simp only [Act.put, List.setIfInBounds_toArray, List.set_cons_zero, List.set_cons_succ]
          refine wpAnyH_ready (rs := [17, 23]) (by kernel_rfl) (by simp) ?_
          refine readyN rfl (fun K hK => ?_) ?_
          · -- operation 17
            go_simp
            refine hK.out _ _ ?_ (fun hHeld1 => ?_)
            · (try dsimp only)
              first | exact S0.out | exact SS.out (fun _ => False) _ (Keep.ofBelow (LB'.out _) _) (fun h => h) | exact SS.out (fun _ => False) _ (Keep.ofBelow (LP.out _) _) (fun h => h) | exact SS.out (fun _ => False) _ (Keep.ofBelow F1.out _) (fun h => h) | exact SS.out (fun _ => False) _ (Keep.ofBelow F2.out _) (fun h => h) | exact SZ
            clear hK K hHeld0
            try simp only [Act.put, List.setIfInBounds_toArray, List.set_cons_zero, List.set_cons_succ]
            refine wpAnyH_ready (rs := [23]) (by kernel_rfl) (by simp) ?_
            refine readyN rfl (fun K hK => ?_) ?_
            · -- operation 23
              go_simp
              refine hK.out _ _ ?_ (fun hHeld2 => ?_)
              · (try dsimp only)
                first | exact S0.out | exact SS.out (fun _ => False) _ (Keep.ofBelow (LB'.out _) _) (fun h => h) | exact SS.out (fun _ => False) _ (Keep.ofBelow (LP.out _) _) (fun h => h) | exact SS.out (fun _ => False) _ (Keep.ofBelow F1.out _) (fun h => h) | exact SS.out (fun _ => False) _ (Keep.ofBelow F2.out _) (fun h => h) | exact SZ
              clear hK K hHeld1
              try simp only [Act.put, List.setIfInBounds_toArray, List.set_cons_zero, List.set_cons_succ]
              refine wpAnyH_ready (rs := [29]) (by kernel_rfl) (by simp) ?_
              refine readyN rfl (fun K hK => ?_) ?_
              · -- operation 29
                go_simp
                (go_at_call 34
                 first
                   | ((with_reducible refine (PA.out _ (fb' wr.drew) (fp (gb' wr.drew)) F1.out ((SB'.out _).below (LP.out _)) (SP.out _)).mono ?_)
                      have FF := F1)
                   | ((with_reducible refine (PA.out _ (fb' (gp wr.drew)) (fp wr.drew) F2.out (SB'.out _) ((SP.out _).below (LB'.out _))).mono ?_)
                      have FF := F2)
                 rintro e w5 ⟨rfl, hm, hk⟩
                 have hk5 := (Keep.ofBelow FF.out (fun i => i = b1)).trans hk (fun i hi => .inl hi)
                 have SZ := SS.out _ w5 hk5 NE.out
                 have HH5 := Lib.hid (show ∃ now F, MemIs w5 p (-1) b1 b2 now [] ∧ Idx now F ∧ St (j + 1) now from ⟨_, _, hm, keep_idx HI.out HY.out.t.1 HY.out.t.2 HY.out.s, keepA_st HT.out _ _ _ _ _⟩)
                 have BX5 := Lib.hid (BXd.out.keep hk5 (BXd.out.ne HSD.out.now))
                 have HB5 := Lib.hid ((HBd.out.trans (FF.out.mono HBd.out.size)).trans (hk.below (B := w.heap.size) (Nat.le_trans HBd.out.size FF.out.size) (fun i hi => by subst hi; exact HP.out)))
                 clear hm hk hk5 FF)
                go_wp2_with fail
                refine hK.out _ _ ?_ (fun hHeld3 => ?_)
                · (try dsimp only)
                  first | exact S0.out | exact SS.out (fun _ => False) _ (Keep.ofBelow (LB'.out _) _) (fun h => h) | exact SS.out (fun _ => False) _ (Keep.ofBelow (LP.out _) _) (fun h => h) | exact SS.out (fun _ => False) _ (Keep.ofBelow F1.out _) (fun h => h) | exact SS.out (fun _ => False) _ (Keep.ofBelow F2.out _) (fun h => h) | exact SZ
                clear hK K hHeld2
                try simp only [Act.put, List.setIfInBounds_toArray, List.set_cons_zero, List.set_cons_succ]
                refine wpAnyH_done (by kernel_rfl) ?_ _
                go_wp2
                go_roundw
                case rel => exact ⟨j + 1, by omega, by go_num, HH5, BX5, HB5⟩
                case measure => simp [intOf]; omega
              exact AllReadyH.nil
            exact AllReadyH.nil
          refine readyN rfl (fun K hK => ?_) ?_
          · -- operation 23
            go_simp
            refine hK.out _ _ ?_ (fun hHeld1 => ?_)
            · (try dsimp only)
              first | exact S0.out | exact SS.out (fun _ => False) _ (Keep.ofBelow (LB'.out _) _) (fun h => h) | exact SS.out (fun _ => False) _ (Keep.ofBelow (LP.out _) _) (fun h => h) | exact SS.out (fun _ => False) _ (Keep.ofBelow F1.out _) (fun h => h) | exact SS.out (fun _ => False) _ (Keep.ofBelow F2.out _) (fun h => h) | exact SZ
            clear hK K hHeld0
            try simp only [Act.put, List.setIfInBounds_toArray, List.set_cons_zero, List.set_cons_succ]
            refine wpAnyH_ready (rs := [17]) (by kernel_rfl) (by simp) ?_
            refine readyN rfl (fun K hK => ?_) ?_
            · -- operation 17
              go_simp
              refine hK.out _ _ ?_ (fun hHeld2 => ?_)
              · (try dsimp only)
                first | exact S0.out | exact SS.out (fun _ => False) _ (Keep.ofBelow (LB'.out _) _) (fun h => h) | exact SS.out (fun _ => False) _ (Keep.ofBelow (LP.out _) _) (fun h => h) | exact SS.out (fun _ => False) _ (Keep.ofBelow F1.out _) (fun h => h) | exact SS.out (fun _ => False) _ (Keep.ofBelow F2.out _) (fun h => h) | exact SZ
              clear hK K hHeld1
              try simp only [Act.put, List.setIfInBounds_toArray, List.set_cons_zero, List.set_cons_succ]
              refine wpAnyH_ready (rs := [29]) (by kernel_rfl) (by simp) ?_
              refine readyN rfl (fun K hK => ?_) ?_
              · -- operation 29
                go_simp
                (go_at_call 34
                 first
                   | ((with_reducible refine (PA.out _ (fb' wr.drew) (fp (gb' wr.drew)) F1.out ((SB'.out _).below (LP.out _)) (SP.out _)).mono ?_)
                      have FF := F1)
                   | ((with_reducible refine (PA.out _ (fb' (gp wr.drew)) (fp wr.drew) F2.out (SB'.out _) ((SP.out _).below (LB'.out _))).mono ?_)
                      have FF := F2)
                 rintro e w5 ⟨rfl, hm, hk⟩
                 have hk5 := (Keep.ofBelow FF.out (fun i => i = b1)).trans hk (fun i hi => .inl hi)
                 have SZ := SS.out _ w5 hk5 NE.out
                 have HH5 := Lib.hid (show ∃ now F, MemIs w5 p (-1) b1 b2 now [] ∧ Idx now F ∧ St (j + 1) now from ⟨_, _, hm, keep_idx HI.out HY.out.t.1 HY.out.t.2 HY.out.s, keepA_st HT.out _ _ _ _ _⟩)
                 have BX5 := Lib.hid (BXd.out.keep hk5 (BXd.out.ne HSD.out.now))
                 have HB5 := Lib.hid ((HBd.out.trans (FF.out.mono HBd.out.size)).trans (hk.below (B := w.heap.size) (Nat.le_trans HBd.out.size FF.out.size) (fun i hi => by subst hi; exact HP.out)))
                 clear hm hk hk5 FF)
                go_wp2_with fail
                refine hK.out _ _ ?_ (fun hHeld3 => ?_)
                · (try dsimp only)
                  first | exact S0.out | exact SS.out (fun _ => False) _ (Keep.ofBelow (LB'.out _) _) (fun h => h) | exact SS.out (fun _ => False) _ (Keep.ofBelow (LP.out _) _) (fun h => h) | exact SS.out (fun _ => False) _ (Keep.ofBelow F1.out _) (fun h => h) | exact SS.out (fun _ => False) _ (Keep.ofBelow F2.out _) (fun h => h) | exact SZ
                clear hK K hHeld2
                try simp only [Act.put, List.setIfInBounds_toArray, List.set_cons_zero, List.set_cons_succ]
                refine wpAnyH_done (by kernel_rfl) ?_ _
                go_wp2
                go_roundw
                case rel => exact ⟨j + 1, by omega, by go_num, HH5, BX5, HB5⟩
                case measure => simp [intOf]; omega
              exact AllReadyH.nil
            exact AllReadyH.nil
          exact AllReadyH.nil
        · have i1 : decide ((j : Int) < (l.length : Int)) = false := decide_eq_false (by omega)
          have hrl : (AL.range ByteArray.empty ByteArray.empty now).length ≤ l.length := Nat.le_trans (range_len _ _ _) (by have := HT.out.len; omega)
          have hsm : Small now := HT.out.sml (by omega)
          have HSM := Lib.hid hsm
          clear hsm
          go_wp2_with fail
          refine (range_any p (-1) b1 b2 now [] (.slice none 0 0) (.slice none 0 0) ByteArray.empty ByteArray.empty wr HS3.out (BS.nil _) (BS.nil _) HSM.out HT.out.nd).mono ?_
          rintro e w5 ⟨xv, rfl, hps, hb⟩
          have hps' := hps.pr
          obtain ⟨xa, xc, rfl, _⟩ := hps'
          have HS5 := Lib.hid (HS3.out.below hb)
          have BX5 := Lib.hid (BX3.out.below hb)
          have HB5 := Lib.hid (HB3.out.trans (hb.mono HB3.out.size))
          clear hps hb
          obtain ⟨d1, d2, d3, d4, d5⟩ := BX5.out.cells
          go_wp2_with fail
          refine (find_any p (-1) b1 b2 now [] F x.ten HX.out.t.1 HX.out.t.2 x.text x.body (fb w5) (gb w5) (HS5.out.below (LB.out w5)) HI.out HX.out.x (SB.out w5)).mono ?_
          rintro e w6 ⟨u6, rfl, _, hb⟩
          have hb6 := below_and (LB.out w5) hb
          have HS6 := Lib.hid (HS5.out.below hb6)
          have BX6 := Lib.hid (BX5.out.below hb6)
          have HB6 := Lib.hid (HB5.out.trans (hb6.mono HB5.out.size))
          clear hb hb6 d1 d2 d3 d4 d5
          obtain ⟨d1, d2, d3, d4, d5⟩ := BX6.out.cells
          go_wp2_with fail
          refine (seq_any p (-1) b1 b2 now [] F x.ten HX.out.t.1 HX.out.t.2 x.text w6 HS6.out HI.out HX.out.x).mono ?_
          rintro e w7 ⟨rfl, hb⟩
          have HS7 := Lib.hid (HS6.out.below hb)
          have HB7 := Lib.hid (HB6.out.trans (hb.mono HB6.out.size))
          clear hb d1 d2 d3 d4 d5
          go_wp2_with fail
          refine (range_any p (-1) b1 b2 now [] (.slice none 0 0) (.slice none 0 0) ByteArray.empty ByteArray.empty w7 HS7.out (BS.nil _) (BS.nil _) HSM.out HT.out.nd).mono ?_
          rintro e w8 ⟨yv, rfl, hps, hb⟩
          have hps' := hps.pr
          obtain ⟨ya, yc, rfl, _⟩ := hps'
          have HB8 := Lib.hid (HB7.out.trans (hb.mono HB7.out.size))
          clear hps hb
          generalize (AL.range ByteArray.empty ByteArray.empty now).length = g at hrl
          have q1 : ((g : Int) == (g : Int)) = true := by simp
          have q2 : decide ((g : Int) ≤ (l.length : Int)) = true := decide_eq_true (by omega)
          go_wp2_with fail
          refine (HG.out _).mono ?_
          rintro e wf ⟨rfl, hb⟩
          have HBF := Lib.hid (HB8.out.trans (hb.mono HB8.out.size))
          clear hb
          go_wp2
          go_ret
          exact ⟨rfl, HBF.out⟩
end Go.Proofs.Ytiadoimdohnebaa
