/- The walk of IdemPlays. -/
import Derived.Test.YtiadoimdohnebaaRef18b
import Derived.Test.YtiadoimdohnebaaLawIFinds
namespace Go.Proofs.Ytiadoimdohnebaa
open Go.RowKit
set_option maxRecDepth 100000
set_option linter.unusedVariables false
set_option linter.unusedSimpArgs false
set_option maxHeartbeats 4000000
def A18.kept (x : A18) : K18 := ⟨x.ten, x.text, x.body, x.reply, x.seq⟩
theorem atK_append (t : Int) (x : ByteArray) (k : K18) : ∀ l : List K18, atK t x (l ++ [k]) = match atK t x l with | some i => some i | none => if isK t x k = true then some l.length else none
  | [] => by
    show (if isK t x k = true then some 0 else (atK t x []).map (· + 1)) = _
    by_cases h : isK t x k = true
    · rw [if_pos h]; simp [atK, h]
    · rw [if_neg h]; simp [atK, h]
  | a :: l => by
    have ih := atK_append t x k l
    rw [List.cons_append]
    unfold atK
    by_cases ha : isK t x a = true
    · rw [if_pos ha, if_pos ha]
    · rw [if_neg ha, if_neg ha, ih]
      cases atK t x l with
      | some i => rfl
      | none =>
        by_cases h : isK t x k = true
        · simp [h]
        · simp [h]
theorem ixf_nil : ixf [] = F0 := by funext t x; rfl
theorem keepE_ref {now : AL} {l : List K18} (hI : Idx now (ixf l)) (k : K18) (h0 : 0 ≤ k.ten) (h1 : k.ten ≤ 4294967295) : keepE (-1) now (ixf l) k.ten k.text k.rec_ = rkeepE l k := by
  rw [keepE_is hI h0 h1]; rfl
theorem keepF_ref {now : AL} {l : List K18} (hI : Idx now (ixf l)) (k : K18) (h0 : 0 ≤ k.ten) (h1 : k.ten ≤ 4294967295) : keepF (-1) now (ixf l) k.ten k.text k.rec_ = ixf (rkeepL l k) := by
  unfold keepF rkeepL
  rw [keepE_ref hI k h0 h1]
  by_cases he : rkeepE l k = 0
  · rw [if_pos he, if_pos he]
    have hn : ixf l k.ten k.text = none := by
      unfold rkeepE at he
      cases hf : ixf l k.ten k.text with
      | none => rfl
      | some r =>
        rw [hf] at he
        by_cases hc : chk k.text = false
        · rw [if_pos hc] at he; cases he
        · rw [if_neg hc, if_pos (show (some r).isSome = true from rfl)] at he; cases he
    have hna : atK k.ten k.text l = none := by
      cases ha : atK k.ten k.text l with
      | none => rfl
      | some i =>
        obtain ⟨y, hy, _⟩ := atK_get _ _ l i ha
        rw [ixf_some ha hy] at hn; cases hn
    funext t x
    by_cases hk : t = k.ten ∧ x = k.text
    · obtain ⟨rfl, rfl⟩ := hk
      rw [if_pos ⟨rfl, rfl⟩]
      have h2 : atK k.ten k.text (l ++ [k]) = some l.length := by rw [atK_append, hna]; simp [(isK_iff k.ten k.text k).2 ⟨rfl, rfl⟩]
      rw [ixf_some h2 (k := k) (by simp)]
    · rw [if_neg hk]
      have hik : ¬ isK t x k = true := fun h => hk (by obtain ⟨a, b⟩ := (isK_iff t x k).1 h; exact ⟨a.symm, b.symm⟩)
      cases ha : atK t x l with
      | none =>
        have h2 : atK t x (l ++ [k]) = none := by rw [atK_append, ha]; simp [hik]
        rw [ixf_none ha, ixf_none h2]
      | some i =>
        obtain ⟨y, hy, _⟩ := atK_get _ _ l i ha
        have h2 : atK t x (l ++ [k]) = some i := by rw [atK_append, ha]
        have hi := (List.getElem?_eq_some_iff.1 hy).1
        rw [ixf_some ha hy, ixf_some h2 (by rw [List.getElem?_append_left hi]; exact hy)]
  · rw [if_neg he, if_neg he]
theorem IxIs.row_ne {w : World} {B p : Nat} {v : Value} {l : List K18} (h : IxIs w B p v l) {n : Nat} {c : Array Value} {e : TypeId} {z : Nat × Nat} (hn : w.heap[n]? = some (.cells c e z)) (h1 : e ≠ 56) (h2 : e ≠ 67) : ¬ IXF p v n := by
  rintro (rfl | hk)
  · rw [h.blk] at hn; simp only [Option.some.injEq, Obj.cells.injEq] at hn; exact h1 hn.2.1.symm
  · obtain ⟨_, c', hc⟩ := h.blk_row hk
    rw [hc] at hn; simp only [Option.some.injEq, Obj.cells.injEq] at hn; exact h2 hn.2.1.symm
theorem IxIs.row_map {w : World} {B p : Nat} {v : Value} {l : List K18} (h : IxIs w B p v l) {n : Nat} {al : AL} (hn : MapAt w n al) : ¬ IXF p v n := by
  obtain ⟨es, c, h1, _⟩ := hn
  rintro (rfl | hk)
  · rw [h.blk] at h1; cases h1
  · obtain ⟨_, c', hc⟩ := h.blk_row hk
    rw [hc] at h1; cases h1
theorem MemIs.ixk {w w' : World} {p b1 b2 : Nat} {r : Int} {now was : AL} {B q : Nat} {v : Value} {l : List K18} (h : MemIs w p r b1 b2 now was) (hx : IxIs w B q v l) (hk : Keep (IXF q v) w w') : MemIs w' p r b1 b2 now was :=
  h.keep hk (hx.row_ne h.blk (by decide) (by decide)) (hx.row_map h.now) (hx.row_map h.was)
theorem IxIs.memk {w w' : World} {p b1 b2 : Nat} {r : Int} {now was : AL} {B q : Nat} {v : Value} {l : List K18} (hx : IxIs w B q v l) (h : MemIs w p r b1 b2 now was) (hk : Keep (fun i => i = b1) w w') : IxIs w' B q v l :=
  hx.keep hk (fun e => hx.row_map h.now (.inl e.symm)) (fun k hk' e => hx.row_map h.now (.inr (by rw [← e]; exact hk')))
/-- what both stores are behind j acts -/
def IP (w0 : Nat) (w : World) (p b1 b2 q : Nat) (j : Nat) : Prop := ∃ now v l, MemIs w p (-1) b1 b2 now [] ∧ Idx now (ixf l) ∧ St j now ∧ IxIs w w0 q v l ∧ l.length ≤ j
theorem iplays_any (lv : Value) (l : List A18) (w : World) (hL : AS8 w lv l) :
    Calls Try.prog 7 #[lv] w fun e w' => e = .returned (.bool true) ∧ Below w.heap.size w w' := by
  obtain ⟨la, lc, rfl⟩ : ∃ a c, lv = .slice a l.length c := by obtain ⟨a, c, h, _⟩ := hL; exact ⟨a, c, h⟩
  have HG := Lib.hid goes18
  have GL := Lib.hid (great18_any _ l _ hL)
  have HL := Lib.hid hL
  clear hL
  cases hg1 : gr18 l with
  | true =>
    have G := Lib.hid hg1
    clear hg1
    go_enter Try.func7, Try.ntmps7
    go_wp2_with fail
    refine GL.out.mono ?_
    rintro e w1 ⟨rfl, rfl⟩
    rw [G.out]
    go_wp2
    go_ret
    exact ⟨rfl, Below.refl _ _⟩
  | false =>
    have G1 := Lib.hid hg1
    have SL := Lib.hid (gr18_false hg1)
    have hll : l.length ≤ 100 := SL.out.1
    clear hg1
    go_enter Try.func7, Try.ntmps7
    go_wp2_with fail
    refine GL.out.mono ?_
    rintro e w1 ⟨rfl, hw⟩
    obtain rfl := hw
    rw [G1.out]
    go_wp2_with fail
    refine (new_any (-1) _).mono ?_
    rintro e w2 ⟨p, b1, b2, rfl, hp, hb1, hb2, hm, hb⟩
    have HS2 := Lib.hid (show IP w.heap.size (w2.alloc (.cells #[.slice none 0 0] 56)) p b1 b2 w2.heap.size 0 from
      ⟨[], .slice none 0 0, [], hm.below ((Below.refl _ _).alloc (Nat.le_refl _) _), by rw [ixf_nil]; exact idx0, St.nil, ⟨blk_new w2 _, World.ownsRow_nil _ _ _ _, hb.size, fun h => by cases h⟩, by simp⟩)
    have HB2 := Lib.hid (hb.alloc hb.size (.cells #[.slice none 0 0] 56))
    have HP := Lib.hid hb1
    have hq : w.heap.size ≤ w2.heap.size := hb.size
    clear hm hb hp hb1 hb2 GL G1
    unfold pV
    go_wp2_with fail
    go_loopw [5] (fun i wr => ∃ j : Nat, j ≤ l.length ∧ i = .int .i64 j ∧ Hid (IP w.heap.size wr p b1 b2 w2.heap.size j) ∧ Hid (Below w.heap.size w wr)) (fun i _ => l.length - (intOf i).toNat)
    case atStart => exact ⟨0, by omega, rfl, HS2, HB2⟩
    case round =>
      clear HS2 HB2
      obtain ⟨j, hj, rfl, HH, HB3⟩ := hrel
      obtain ⟨now, v, kl, hS, hI, hT, hX, hkl⟩ := HH.out
      by_cases hlt : j < l.length
      · obtain ⟨y, hy⟩ : ∃ y, l[j]? = some y := ⟨_, List.getElem?_eq_getElem hlt⟩
        obtain ⟨lb, lo, hla, hok, c0, c1, c2, c3, c4, c5⟩ := (HL.out.below HB3.out).at_ hy
        subst hla
        have hsm := big18_false (SL.out.2 j y hy)
        have hl : now.length ≤ 9223372036854775807 := by have := hT.len; omega
        have i1 : decide ((j : Int) < (l.length : Int)) = true := decide_eq_true (by omega)
        have i2 : (j : Int) < (l.length : Int) := by omega
        obtain ⟨W, hW⟩ : ∃ W, W = wr.alloc (.cells #[.int .u8 y.doo, .int .u32 y.ten, .string y.text, .string y.body, .string y.reply, .int .u64 y.seq] 59) := ⟨_, rfl⟩
        have hbW : Below wr.heap.size wr W := by rw [hW]; exact (Below.refl _ _).alloc (Nat.le_refl _) _
        have hbox : Box8 W wr.heap.size y := by rw [hW]; exact blk_new wr _
        have HBX := Lib.hid hbox
        have HSW := Lib.hid (hS.below hbW)
        have HXW := Lib.hid (hX.below hbW)
        have HI := Lib.hid hI
        have HT := Lib.hid hT
        have HOK := Lib.hid hok
        have HSM := Lib.hid hsm
        have HBW := Lib.hid (HB3.out.trans (hbW.mono HB3.out.size))
        have HKL := Lib.hid hkl
        have hw3 : w.heap.size ≤ wr.heap.size := HB3.out.size
        have HOD := hok.d
        rw [hW] at HBX HSW HXW HBW
        clear hS hI hT hX hW hbW hbox hy HH hok hsm hkl
        have hcx := HBX.out.cells
        have b2' : ∀ n, ((wr.alloc (.cells #[.int .u8 y.doo, .int .u32 y.ten, .string y.text, .string y.body, .string y.reply, .int .u64 y.seq] 59)).drewN n).cell? ⟨wr.heap.size, 2, none⟩ = some (.string y.text) := fun n => hcx.2.1
        have b0' : ∀ n, ((wr.alloc (.cells #[.int .u8 y.doo, .int .u32 y.ten, .string y.text, .string y.body, .string y.reply, .int .u64 y.seq] 59)).drewN n).cell? ⟨wr.heap.size, 0, none⟩ = some (.int .u8 y.doo) := fun n => by
          show (wr.alloc (.cells #[.int .u8 y.doo, .int .u32 y.ten, .string y.text, .string y.body, .string y.reply, .int .u64 y.seq] 59)).cell? _ = _
          rw [blk_cell HBX.out]; rfl
        have B2 := Lib.hid b2'
        clear hcx
        go_wp2_with fail
        go_quiet (first
          | (go_at_call 30; refine (check_i y.text _ HOK.out.x).mono ?_; rintro e w' ⟨rfl, rfl⟩; exact ⟨rfl, _, rfl⟩)
          | (go_at_call 31; refine (chk18_any y.text HOK.out.x _).mono ?_; rintro e w' ⟨rfl, rfl⟩; exact ⟨rfl, _, rfl⟩))
        have hd3 : y.doo % 3 = 0 ∨ y.doo % 3 = 1 ∨ y.doo % 3 = 2 := by omega
        obtain ⟨d, hd⟩ : ∃ d, y.doo % 3 = d := ⟨_, rfl⟩
        rw [hd] at hd3
        have hbn : Below (wr.alloc (.cells #[.int .u8 y.doo, .int .u32 y.ten, .string y.text, .string y.body, .string y.reply, .int .u64 y.seq] 59)).heap.size (wr.alloc (.cells #[.int .u8 y.doo, .int .u32 y.ten, .string y.text, .string y.body, .string y.reply, .int .u64 y.seq] 59)) ((wr.alloc (.cells #[.int .u8 y.doo, .int .u32 y.ten, .string y.text, .string y.body, .string y.reply, .int .u64 y.seq] 59)).drewN nq) := below_drewN_of _ _
        have BX5 := Lib.hid (HBX.out.below hbn)
        have HS5 := Lib.hid (HSW.out.below hbn)
        have HX5 := Lib.hid (HXW.out.below hbn)
        have HB5 := Lib.hid (HBW.out.trans (hbn.mono HBW.out.size))
        have hcc := BX5.out.cells
        have hc0 := b0' nq
        clear hbn HBX HSW HXW HBW b2' b0' B2
        generalize (wr.alloc (.cells #[.int .u8 y.doo, .int .u32 y.ten, .string y.text, .string y.body, .string y.reply, .int .u64 y.seq] 59)).drewN nq = W5 at *
        obtain ⟨d1, d2, d3, d4, d5⟩ := hcc
        have hkl2 : kl.length ≤ 1000000 := by have := HKL.out; omega
        rcases hd3 with rfl | rfl | rfl
        · obtain ⟨fb, gb, eb, sb, lb⟩ := conv_ex y.body (by have := HSM.out; omega)
          have SB := Lib.hid sb
          have LB := Lib.hid lb
          clear sb lb
          go_wp2_with fail
          refine (find_any p (-1) b1 b2 now [] (ixf kl) y.ten HOK.out.t.1 HOK.out.t.2 y.text y.body (fb W5) (gb W5) (HS5.out.below (LB.out W5)) HI.out HOK.out.x (SB.out W5)).mono ?_
          rintro e w6 ⟨u6, rfl, hbs, hb⟩
          have hb6 := below_and (LB.out W5) hb
          have HS6 := Lib.hid (HS5.out.below hb6)
          have HX6 := Lib.hid (HX5.out.below hb6)
          have BX6 := Lib.hid (BX5.out.below hb6)
          have HB6 := Lib.hid (HB5.out.trans (hb6.mono HB5.out.size))
          have hv6 := hbs.string (P := Try.prog) 23 5 9 uBytes uByte uStr
          clear hb hb6 d1 d2 d3 d4 d5 hc0 hbs
          obtain ⟨d1, d2, d3, d4, d5⟩ := BX6.out.cells
          have HRF := Lib.hid (rfind_any y.ten y.text y.body HX6.out hkl2 HOK.out.x)
          obtain ⟨R, hR⟩ : ∃ R, R = findR (ixf kl) y.ten y.text y.body := ⟨_, rfl⟩
          rw [← hR] at HRF hv6 ⊢
          clear hR
          obtain ⟨R1, R2, R3⟩ := R
          simp only at HRF hv6 ⊢
          have q1 : (R1.toList == R1.toList) = true := beq_iff_eq.2 rfl
          go_wp2_with fail
          refine HRF.out.mono ?_
          rintro e w7 ⟨rfl, hw⟩
          obtain rfl := hw.symm
          clear HRF
          go_wp2_with fail
          go_roundw
          case rel => exact ⟨j + 1, by omega, by go_num, Lib.hid ⟨now, v, kl, HS6.out, HI.out, HT.out.mono (by omega), HX6.out, by have := HKL.out; omega⟩, HB6⟩
          case measure => simp [intOf]; omega
        · obtain ⟨fb', gb', eb', sb', lb'⟩ := conv_ex y.body (by have := HSM.out; omega)
          obtain ⟨fp, gp, ep, sp, lp⟩ := conv_ex y.reply (by have := HSM.out; omega)
          have SB' := Lib.hid sb'
          have LB' := Lib.hid lb'
          have SP := Lib.hid sp
          have LP := Lib.hid lp
          have F1 := Lib.hid (below_and (LB'.out W5.drew) (LP.out (gb' W5.drew)))
          have F2 := Lib.hid (below_and (LP.out W5.drew) (LB'.out (gp W5.drew)))
          have hSd : MemIs W5.drew p (-1) b1 b2 now [] := HS5.out.below ((Below.refl _ _).drew)
          have hXd : IxIs W5.drew w.heap.size w2.heap.size v kl := HX5.out.below ((Below.refl _ _).drew)
          have hBd : Box8 W5.drew wr.heap.size y := BX5.out.below ((Below.refl _ _).drew)
          have hl2 := hl
          have pa := fun (W : World) (u u' : Value) (hb : Below W5.drew.heap.size W5.drew W) (g1 : BS W u y.body) (g2 : BS W u' y.reply) => keep_any p (-1) b1 b2 now [] (ixf kl) y.ten HOK.out.t.1 HOK.out.t.2 y.text y.kept.rec_ u u' W (hSd.below hb) HI.out HOK.out.x g1 g2 (by have := HSM.out; show y.body.size ≤ _; omega) (by have := HSM.out; show y.reply.size ≤ _; omega) HOK.out.s hl2
          have hke := keepE_ref HI.out y.kept HOK.out.t.1 HOK.out.t.2
          have hkf := keepF_ref HI.out y.kept HOK.out.t.1 HOK.out.t.2
          have hki := keep_idx (room := -1) (r := y.kept.rec_) (x := y.text) HI.out HOK.out.t.1 HOK.out.t.2 HOK.out.s
          have hkst := keepA_st HT.out (-1) (ixf kl) y.ten y.text y.kept.rec_
          rw [show y.ten = y.kept.ten from rfl, show y.text = y.kept.text from rfl, hkf] at hki
          rw [show keepE (-1) now (ixf kl) y.ten y.text y.kept.rec_ = rkeepE kl y.kept from hke] at pa
          obtain ⟨E, hE⟩ : ∃ E, E = rkeepE kl y.kept := ⟨_, rfl⟩
          have rk := fun (W : World) (hx : IxIs W w.heap.size w2.heap.size v kl) => rkeep_any y.kept hx hkl2 HOK.out.x (by have := HSM.out; show y.body.size ≤ _; omega) (by have := HSM.out; show y.reply.size ≤ _; omega)
          rw [← hE] at pa
          simp only [← hE] at rk
          simp only [sV, pV, show y.kept.rec_.seq = y.seq from rfl] at pa
          simp only [K18.cells, A18.kept] at rk
          have PA := Lib.hid pa
          have RK := Lib.hid rk
          have HKI := Lib.hid (show Idx (keepA (-1) now (ixf kl) y.ten y.text y.kept.rec_) (ixf (rkeepL kl y.kept)) from hki)
          have HKS := Lib.hid hkst
          have s0 := hBd.cells
          have S0 := Lib.hid s0
          have SS := Lib.hid fun (W : World) (hk : Box8 W wr.heap.size y) => hk.cells
          have BXd := Lib.hid hBd
          have HSD := Lib.hid hSd
          have HXD := Lib.hid hXd
          have HBd := Lib.hid (show Below w.heap.size w W5.drew from HB5.out.drew)
          clear hSd hXd hBd pa rk hke hkf hki hkst s0 sb' lb' sp lp hE d1 d2 d3 d4 d5
          go_wp2_with fail
          refine wp_region_held_drew (S := (fun w' => w'.cell? ⟨wr.heap.size, 1, none⟩ = some (.int .u32 y.ten) ∧ w'.cell? ⟨wr.heap.size, 2, none⟩ = some (.string y.text) ∧ w'.cell? ⟨wr.heap.size, 3, none⟩ = some (.string y.body) ∧ w'.cell? ⟨wr.heap.size, 4, none⟩ = some (.string y.reply) ∧ w'.cell? ⟨wr.heap.size, 5, none⟩ = some (.int .u64 y.seq))) (by kernel_rfl) ?_ (fun hHeld0 => ?_)
          · (try dsimp only)
            first | exact S0.out | exact SS.out _ (BXd.out.below (LB'.out _)) | exact SS.out _ (BXd.out.below (LP.out _)) | exact SS.out _ (BXd.out.below F1.out) | exact SS.out _ (BXd.out.below F2.out) | exact SZ2 | exact SZ
          refine takeN (v := ?_) 0 rfl (by kernel_rfl) (by kernel_rfl) (by kernel_rfl) (fun _ _ _ h => h) (by rfl) ?_ hHeld0 ?_
          rotate_left
          · intro w hSw; (try dsimp only at hSw); go_simp; with_reducible rfl
          try simp only [Act.put, List.setIfInBounds_toArray, List.set_cons_zero, List.set_cons_succ]
          refine takeN (v := ?_) 1 rfl (by kernel_rfl) (by kernel_rfl) (by kernel_rfl) (fun _ _ _ h => h) (by rfl) ?_ hHeld0 ?_
          rotate_left
          · intro w hSw; (try dsimp only at hSw); go_simp; with_reducible rfl
          try simp only [Act.put, List.setIfInBounds_toArray, List.set_cons_zero, List.set_cons_succ]
          refine takeN (v := ?_) 2 rfl (by kernel_rfl) (by kernel_rfl) (by kernel_rfl) (fun _ _ _ h => h) (by rfl) ?_ hHeld0 ?_
          rotate_left
          · intro w hSw; (try dsimp only at hSw); go_simp; with_reducible rfl
          try simp only [Act.put, List.setIfInBounds_toArray, List.set_cons_zero, List.set_cons_succ]
          refine takeN (v := ?_) 3 rfl (by kernel_rfl) (by kernel_rfl) (by kernel_rfl) (fun _ _ _ h => h) (by rfl) ?_ hHeld0 ?_
          rotate_left
          · intro w hSw; (try dsimp only at hSw); go_simp; with_reducible rfl
          try simp only [Act.put, List.setIfInBounds_toArray, List.set_cons_zero, List.set_cons_succ]
          refine takeN (v := ?_) 4 rfl (by kernel_rfl) (by kernel_rfl) (by kernel_rfl) (fun _ _ _ h => h) (by rfl) ?_ hHeld0 ?_
          rotate_left
          · intro w hSw; (try dsimp only at hSw); go_simp; with_reducible rfl
          try simp only [Act.put, List.setIfInBounds_toArray, List.set_cons_zero, List.set_cons_succ]
          refine takeN (v := ?_) 5 rfl (by kernel_rfl) (by kernel_rfl) (by kernel_rfl) (fun _ _ _ h => h) (by rfl) ?_ hHeld0 ?_
          rotate_left
          · intro w hSw; (try dsimp only at hSw); go_simp; with_reducible rfl
          try simp only [Act.put, List.setIfInBounds_toArray, List.set_cons_zero, List.set_cons_succ]
          refine takeN (v := ?_) 6 rfl (by kernel_rfl) (by kernel_rfl) (by kernel_rfl) (fun _ _ _ h => h) (by rfl) ?_ hHeld0 ?_
          rotate_left
          · intro w hSw; (try dsimp only at hSw); go_simp; with_reducible rfl
          try simp only [Act.put, List.setIfInBounds_toArray, List.set_cons_zero, List.set_cons_succ]
          refine takeN (v := ?_) 7 rfl (by kernel_rfl) (by kernel_rfl) (by kernel_rfl) (fun _ _ _ h => h) (by rfl) ?_ hHeld0 ?_
          rotate_left
          · intro w hSw; (try dsimp only at hSw); go_simp; with_reducible rfl
          try simp only [Act.put, List.setIfInBounds_toArray, List.set_cons_zero, List.set_cons_succ]
          refine takeN (v := ?_) 9 rfl (by kernel_rfl) (by kernel_rfl) (by kernel_rfl) (fun _ _ _ h => h) (by rfl) ?_ hHeld0 ?_
          rotate_left
          · intro w hSw; (try dsimp only at hSw); go_simp; with_reducible rfl
          try simp only [Act.put, List.setIfInBounds_toArray, List.set_cons_zero, List.set_cons_succ]
          refine takeN (v := ?_) 10 rfl (by kernel_rfl) (by kernel_rfl) (by kernel_rfl) (fun _ _ _ h => h) (by rfl) ?_ hHeld0 ?_
          rotate_left
          · intro w hSw; (try dsimp only at hSw); go_simp; with_reducible rfl
          try simp only [Act.put, List.setIfInBounds_toArray, List.set_cons_zero, List.set_cons_succ]
          refine takeN (v := ?_) 12 rfl (by kernel_rfl) (by kernel_rfl) (by kernel_rfl) (fun _ _ _ h => h) (by rfl) ?_ hHeld0 ?_
          rotate_left
          · intro w hSw; (try dsimp only at hSw); go_simp; with_reducible rfl
          try simp only [Act.put, List.setIfInBounds_toArray, List.set_cons_zero, List.set_cons_succ]
          refine takeN (v := ?_) 13 rfl (by kernel_rfl) (by kernel_rfl) (by kernel_rfl) (fun _ _ _ h => h) (by rfl) ?_ hHeld0 ?_
          rotate_left
          · intro w hSw; (try dsimp only at hSw); go_simp; with_reducible rfl
          try simp only [Act.put, List.setIfInBounds_toArray, List.set_cons_zero, List.set_cons_succ]
          refine takeN (v := ?_) 15 rfl (by kernel_rfl) (by kernel_rfl) (by kernel_rfl) (fun _ _ _ h => h) (by rfl) ?_ hHeld0 ?_
          rotate_left
          · intro w hSw; (try dsimp only at hSw); go_simp; with_reducible rfl
          try simp only [Act.put, List.setIfInBounds_toArray, List.set_cons_zero, List.set_cons_succ]
          refine takeN (v := ?_) 16 rfl (by kernel_rfl) (by kernel_rfl) (by kernel_rfl) (fun _ _ _ h => h) (by rfl) ?_ hHeld0 ?_
          rotate_left
          · intro w hSw; (try dsimp only at hSw); go_simp; with_reducible rfl
          try simp only [Act.put, List.setIfInBounds_toArray, List.set_cons_zero, List.set_cons_succ]
          refine takeN (v := ?_) 17 rfl (by kernel_rfl) (by kernel_rfl) (by kernel_rfl) (fun _ _ _ h => h) (by rfl) ?_ hHeld0 ?_
          rotate_left
          · intro w hSw; (try dsimp only at hSw); go_simp; with_reducible rfl
          try simp only [Act.put, List.setIfInBounds_toArray, List.set_cons_zero, List.set_cons_succ]
          refine takeN (v := ?_) 18 rfl (by kernel_rfl) (by kernel_rfl) (by kernel_rfl) (fun _ _ _ h => h) (by rfl) ?_ hHeld0 ?_
          rotate_left
          · intro w hSw; (try dsimp only at hSw); go_simp; with_reducible rfl
          try simp only [Act.put, List.setIfInBounds_toArray, List.set_cons_zero, List.set_cons_succ]
          refine takeN (v := ?_) 19 rfl (by kernel_rfl) (by kernel_rfl) (by kernel_rfl) (fun _ _ _ h => h) (by rfl) ?_ hHeld0 ?_
          rotate_left
          · intro w hSw; (try dsimp only at hSw); go_simp; with_reducible rfl
          try simp only [Act.put, List.setIfInBounds_toArray, List.set_cons_zero, List.set_cons_succ]
          refine takeN (v := ?_) 20 rfl (by kernel_rfl) (by kernel_rfl) (by kernel_rfl) (fun _ _ _ h => h) (by rfl) ?_ hHeld0 ?_
          rotate_left
          · intro w hSw; (try dsimp only at hSw); go_simp; with_reducible rfl
          try simp only [Act.put, List.setIfInBounds_toArray, List.set_cons_zero, List.set_cons_succ]
          refine takeN (v := ?_) 21 rfl (by kernel_rfl) (by kernel_rfl) (by kernel_rfl) (fun _ _ _ h => h) (by rfl) ?_ hHeld0 ?_
          rotate_left
          · intro w hSw; (try dsimp only at hSw); go_simp; with_reducible rfl
          try simp only [Act.put, List.setIfInBounds_toArray, List.set_cons_zero, List.set_cons_succ]
          refine takeN (v := ?_) 22 rfl (by kernel_rfl) (by kernel_rfl) (by kernel_rfl) (fun _ _ _ h => h) (by rfl) ?_ hHeld0 ?_
          rotate_left
          · intro w hSw; (try dsimp only at hSw); go_simp; with_reducible rfl
          try simp only [Act.put, List.setIfInBounds_toArray, List.set_cons_zero, List.set_cons_succ]
          refine takeN (v := ?_) 23 rfl (by kernel_rfl) (by kernel_rfl) (by kernel_rfl) (fun _ _ _ h => h) (by rfl) ?_ hHeld0 ?_
          rotate_left
          · intro w hSw; (try dsimp only at hSw); go_simp; with_reducible rfl
          try simp only [Act.put, List.setIfInBounds_toArray, List.set_cons_zero, List.set_cons_succ]
          refine takeN (v := ?_) 24 rfl (by kernel_rfl) (by kernel_rfl) (by kernel_rfl) (fun _ _ _ h => h) (by rfl) ?_ hHeld0 ?_
          rotate_left
          · intro w hSw; (try dsimp only at hSw); go_simp; with_reducible rfl
          try simp only [Act.put, List.setIfInBounds_toArray, List.set_cons_zero, List.set_cons_succ]
          refine takeN (v := ?_) 25 rfl (by kernel_rfl) (by kernel_rfl) (by kernel_rfl) (fun _ _ _ h => h) (by rfl) ?_ hHeld0 ?_
          rotate_left
          · intro w hSw; (try dsimp only at hSw); go_simp; with_reducible rfl
          try simp only [Act.put, List.setIfInBounds_toArray, List.set_cons_zero, List.set_cons_succ]
          refine takeN (v := ?_) 26 rfl (by kernel_rfl) (by kernel_rfl) (by kernel_rfl) (fun _ _ _ h => h) (by rfl) ?_ hHeld0 ?_
          rotate_left
          · intro w hSw; (try dsimp only at hSw); go_simp; with_reducible rfl
          try simp only [Act.put, List.setIfInBounds_toArray, List.set_cons_zero, List.set_cons_succ]
          refine wpAnyH_ready (rs := [8, 11]) (by kernel_rfl) (by simp) ?_
          refine readyN rfl (fun K hK => ?_) ?_
          · -- operation 8
            go_simp
            refine hK.out _ _ ?_ (fun hHeld1 => ?_)
            · (try dsimp only)
              first | exact S0.out | exact SS.out _ (BXd.out.below (LB'.out _)) | exact SS.out _ (BXd.out.below (LP.out _)) | exact SS.out _ (BXd.out.below F1.out) | exact SS.out _ (BXd.out.below F2.out) | exact SZ2 | exact SZ
            clear hK K hHeld0
            try simp only [Act.put, List.setIfInBounds_toArray, List.set_cons_zero, List.set_cons_succ]
            refine wpAnyH_ready (rs := [11]) (by kernel_rfl) (by simp) ?_
            refine readyN rfl (fun K hK => ?_) ?_
            · -- operation 11
              go_simp
              refine hK.out _ _ ?_ (fun hHeld2 => ?_)
              · (try dsimp only)
                first | exact S0.out | exact SS.out _ (BXd.out.below (LB'.out _)) | exact SS.out _ (BXd.out.below (LP.out _)) | exact SS.out _ (BXd.out.below F1.out) | exact SS.out _ (BXd.out.below F2.out) | exact SZ2 | exact SZ
              clear hK K hHeld1
              try simp only [Act.put, List.setIfInBounds_toArray, List.set_cons_zero, List.set_cons_succ]
              refine wpAnyH_ready (rs := [14]) (by kernel_rfl) (by simp) ?_
              refine readyN rfl (fun K hK => ?_) ?_
              · -- operation 14
                go_simp
                first
                  | (go_at_call 34
                     first
                       | ((with_reducible refine (PA.out _ (fb' W5.drew) (fp (gb' W5.drew)) F1.out ((SB'.out _).below (LP.out _)) (SP.out _)).mono ?_)
                          have FF := F1)
                       | ((with_reducible refine (PA.out _ (fb' (gp W5.drew)) (fp W5.drew) F2.out (SB'.out _) ((SP.out _).below (LB'.out _))).mono ?_)
                          have FF := F2)
                     rintro e w5 ⟨rfl, hm, hk⟩
                     have hxb := (HXD.out.below FF.out)
                     have HX7 := Lib.hid (hxb.memk (HSD.out.below FF.out) hk)
                     have HS7 := Lib.hid hm
                     have hbx7 := (BXd.out.below FF.out).keep hk ((BXd.out.below FF.out).ne (HSD.out.below FF.out).now)
                     have BX7 := Lib.hid hbx7
                     have SZ := hbx7.cells
                     have HB7 := Lib.hid ((HBd.out.trans (FF.out.mono HBd.out.size)).trans (hk.below (B := w.heap.size) (Nat.le_trans HBd.out.size FF.out.size) (fun i hi => by subst hi; exact HP.out)))
                     clear hm hk hxb hbx7 FF)
                  | (go_at_call 35
                     refine (RK.out _ HX7.out).mono ?_
                     rintro e w6 ⟨rfl, v6, hx6, hk6, hn6⟩
                     have HX8 := Lib.hid hx6
                     have hbx8 := BX7.out.keep hk6 (HX7.out.row_ne BX7.out (by decide) (by decide))
                     have SZ2 := hbx8.cells
                     have HS8 := Lib.hid (HS7.out.ixk HX7.out hk6)
                     have HB8 := Lib.hid (HB7.out.trans (hk6.below (B := w.heap.size) HB7.out.size (fun i hi => by rcases hi with rfl | hi; exact hq; exact (HX7.out.blk_row hi).1)))
                     clear hx6 hk6 hn6 hbx8)
                go_wp2_with fail
                refine hK.out _ _ ?_ (fun hHeld3 => ?_)
                · (try dsimp only)
                  first | exact S0.out | exact SS.out _ (BXd.out.below (LB'.out _)) | exact SS.out _ (BXd.out.below (LP.out _)) | exact SS.out _ (BXd.out.below F1.out) | exact SS.out _ (BXd.out.below F2.out) | exact SZ2 | exact SZ
                clear hK K hHeld2
                try simp only [Act.put, List.setIfInBounds_toArray, List.set_cons_zero, List.set_cons_succ]
                refine wpAnyH_ready (rs := [27]) (by kernel_rfl) (by simp) ?_
                refine readyN rfl (fun K hK => ?_) ?_
                · -- operation 27
                  go_simp
                  first
                    | (go_at_call 34
                       first
                         | ((with_reducible refine (PA.out _ (fb' W5.drew) (fp (gb' W5.drew)) F1.out ((SB'.out _).below (LP.out _)) (SP.out _)).mono ?_)
                            have FF := F1)
                         | ((with_reducible refine (PA.out _ (fb' (gp W5.drew)) (fp W5.drew) F2.out (SB'.out _) ((SP.out _).below (LB'.out _))).mono ?_)
                            have FF := F2)
                       rintro e w5 ⟨rfl, hm, hk⟩
                       have hxb := (HXD.out.below FF.out)
                       have HX7 := Lib.hid (hxb.memk (HSD.out.below FF.out) hk)
                       have HS7 := Lib.hid hm
                       have hbx7 := (BXd.out.below FF.out).keep hk ((BXd.out.below FF.out).ne (HSD.out.below FF.out).now)
                       have BX7 := Lib.hid hbx7
                       have SZ := hbx7.cells
                       have HB7 := Lib.hid ((HBd.out.trans (FF.out.mono HBd.out.size)).trans (hk.below (B := w.heap.size) (Nat.le_trans HBd.out.size FF.out.size) (fun i hi => by subst hi; exact HP.out)))
                       clear hm hk hxb hbx7 FF)
                    | (go_at_call 35
                       refine (RK.out _ HX7.out).mono ?_
                       rintro e w6 ⟨rfl, v6, hx6, hk6, hn6⟩
                       have HX8 := Lib.hid hx6
                       have hbx8 := BX7.out.keep hk6 (HX7.out.row_ne BX7.out (by decide) (by decide))
                       have SZ2 := hbx8.cells
                       have HS8 := Lib.hid (HS7.out.ixk HX7.out hk6)
                       have HB8 := Lib.hid (HB7.out.trans (hk6.below (B := w.heap.size) HB7.out.size (fun i hi => by rcases hi with rfl | hi; exact hq; exact (HX7.out.blk_row hi).1)))
                       clear hx6 hk6 hn6 hbx8)
                  go_wp2_with fail
                  refine hK.out _ _ ?_ (fun hHeld4 => ?_)
                  · (try dsimp only)
                    first | exact S0.out | exact SS.out _ (BXd.out.below (LB'.out _)) | exact SS.out _ (BXd.out.below (LP.out _)) | exact SS.out _ (BXd.out.below F1.out) | exact SS.out _ (BXd.out.below F2.out) | exact SZ2 | exact SZ
                  clear hK K hHeld3
                  try simp only [Act.put, List.setIfInBounds_toArray, List.set_cons_zero, List.set_cons_succ]
                  refine takeN (v := ?_) 28 rfl (by kernel_rfl) (by kernel_rfl) (by kernel_rfl) (fun _ _ _ h => h) (by rfl) ?_ hHeld4 ?_
                  rotate_left
                  · intro w hSw; (try dsimp only at hSw); go_simp; with_reducible rfl
                  try simp only [Act.put, List.setIfInBounds_toArray, List.set_cons_zero, List.set_cons_succ]
                  refine wpAnyH_done (by kernel_rfl) ?_ _
                  go_wp2
                  go_roundw
                  case rel => exact ⟨j + 1, by omega, by go_num, Lib.hid ⟨_, _, _, HS8.out, HKI.out, HKS.out, HX8.out, by have := HKL.out; unfold rkeepL; split <;> simp <;> omega⟩, HB8⟩
                  case measure => simp [intOf]; omega
                exact AllReadyH.nil
              exact AllReadyH.nil
            exact AllReadyH.nil
          refine readyN rfl (fun K hK => ?_) ?_
          · -- operation 11
            go_simp
            refine hK.out _ _ ?_ (fun hHeld1 => ?_)
            · (try dsimp only)
              first | exact S0.out | exact SS.out _ (BXd.out.below (LB'.out _)) | exact SS.out _ (BXd.out.below (LP.out _)) | exact SS.out _ (BXd.out.below F1.out) | exact SS.out _ (BXd.out.below F2.out) | exact SZ2 | exact SZ
            clear hK K hHeld0
            try simp only [Act.put, List.setIfInBounds_toArray, List.set_cons_zero, List.set_cons_succ]
            refine wpAnyH_ready (rs := [8]) (by kernel_rfl) (by simp) ?_
            refine readyN rfl (fun K hK => ?_) ?_
            · -- operation 8
              go_simp
              refine hK.out _ _ ?_ (fun hHeld2 => ?_)
              · (try dsimp only)
                first | exact S0.out | exact SS.out _ (BXd.out.below (LB'.out _)) | exact SS.out _ (BXd.out.below (LP.out _)) | exact SS.out _ (BXd.out.below F1.out) | exact SS.out _ (BXd.out.below F2.out) | exact SZ2 | exact SZ
              clear hK K hHeld1
              try simp only [Act.put, List.setIfInBounds_toArray, List.set_cons_zero, List.set_cons_succ]
              refine wpAnyH_ready (rs := [14]) (by kernel_rfl) (by simp) ?_
              refine readyN rfl (fun K hK => ?_) ?_
              · -- operation 14
                go_simp
                first
                  | (go_at_call 34
                     first
                       | ((with_reducible refine (PA.out _ (fb' W5.drew) (fp (gb' W5.drew)) F1.out ((SB'.out _).below (LP.out _)) (SP.out _)).mono ?_)
                          have FF := F1)
                       | ((with_reducible refine (PA.out _ (fb' (gp W5.drew)) (fp W5.drew) F2.out (SB'.out _) ((SP.out _).below (LB'.out _))).mono ?_)
                          have FF := F2)
                     rintro e w5 ⟨rfl, hm, hk⟩
                     have hxb := (HXD.out.below FF.out)
                     have HX7 := Lib.hid (hxb.memk (HSD.out.below FF.out) hk)
                     have HS7 := Lib.hid hm
                     have hbx7 := (BXd.out.below FF.out).keep hk ((BXd.out.below FF.out).ne (HSD.out.below FF.out).now)
                     have BX7 := Lib.hid hbx7
                     have SZ := hbx7.cells
                     have HB7 := Lib.hid ((HBd.out.trans (FF.out.mono HBd.out.size)).trans (hk.below (B := w.heap.size) (Nat.le_trans HBd.out.size FF.out.size) (fun i hi => by subst hi; exact HP.out)))
                     clear hm hk hxb hbx7 FF)
                  | (go_at_call 35
                     refine (RK.out _ HX7.out).mono ?_
                     rintro e w6 ⟨rfl, v6, hx6, hk6, hn6⟩
                     have HX8 := Lib.hid hx6
                     have hbx8 := BX7.out.keep hk6 (HX7.out.row_ne BX7.out (by decide) (by decide))
                     have SZ2 := hbx8.cells
                     have HS8 := Lib.hid (HS7.out.ixk HX7.out hk6)
                     have HB8 := Lib.hid (HB7.out.trans (hk6.below (B := w.heap.size) HB7.out.size (fun i hi => by rcases hi with rfl | hi; exact hq; exact (HX7.out.blk_row hi).1)))
                     clear hx6 hk6 hn6 hbx8)
                go_wp2_with fail
                refine hK.out _ _ ?_ (fun hHeld3 => ?_)
                · (try dsimp only)
                  first | exact S0.out | exact SS.out _ (BXd.out.below (LB'.out _)) | exact SS.out _ (BXd.out.below (LP.out _)) | exact SS.out _ (BXd.out.below F1.out) | exact SS.out _ (BXd.out.below F2.out) | exact SZ2 | exact SZ
                clear hK K hHeld2
                try simp only [Act.put, List.setIfInBounds_toArray, List.set_cons_zero, List.set_cons_succ]
                refine wpAnyH_ready (rs := [27]) (by kernel_rfl) (by simp) ?_
                refine readyN rfl (fun K hK => ?_) ?_
                · -- operation 27
                  go_simp
                  first
                    | (go_at_call 34
                       first
                         | ((with_reducible refine (PA.out _ (fb' W5.drew) (fp (gb' W5.drew)) F1.out ((SB'.out _).below (LP.out _)) (SP.out _)).mono ?_)
                            have FF := F1)
                         | ((with_reducible refine (PA.out _ (fb' (gp W5.drew)) (fp W5.drew) F2.out (SB'.out _) ((SP.out _).below (LB'.out _))).mono ?_)
                            have FF := F2)
                       rintro e w5 ⟨rfl, hm, hk⟩
                       have hxb := (HXD.out.below FF.out)
                       have HX7 := Lib.hid (hxb.memk (HSD.out.below FF.out) hk)
                       have HS7 := Lib.hid hm
                       have hbx7 := (BXd.out.below FF.out).keep hk ((BXd.out.below FF.out).ne (HSD.out.below FF.out).now)
                       have BX7 := Lib.hid hbx7
                       have SZ := hbx7.cells
                       have HB7 := Lib.hid ((HBd.out.trans (FF.out.mono HBd.out.size)).trans (hk.below (B := w.heap.size) (Nat.le_trans HBd.out.size FF.out.size) (fun i hi => by subst hi; exact HP.out)))
                       clear hm hk hxb hbx7 FF)
                    | (go_at_call 35
                       refine (RK.out _ HX7.out).mono ?_
                       rintro e w6 ⟨rfl, v6, hx6, hk6, hn6⟩
                       have HX8 := Lib.hid hx6
                       have hbx8 := BX7.out.keep hk6 (HX7.out.row_ne BX7.out (by decide) (by decide))
                       have SZ2 := hbx8.cells
                       have HS8 := Lib.hid (HS7.out.ixk HX7.out hk6)
                       have HB8 := Lib.hid (HB7.out.trans (hk6.below (B := w.heap.size) HB7.out.size (fun i hi => by rcases hi with rfl | hi; exact hq; exact (HX7.out.blk_row hi).1)))
                       clear hx6 hk6 hn6 hbx8)
                  go_wp2_with fail
                  refine hK.out _ _ ?_ (fun hHeld4 => ?_)
                  · (try dsimp only)
                    first | exact S0.out | exact SS.out _ (BXd.out.below (LB'.out _)) | exact SS.out _ (BXd.out.below (LP.out _)) | exact SS.out _ (BXd.out.below F1.out) | exact SS.out _ (BXd.out.below F2.out) | exact SZ2 | exact SZ
                  clear hK K hHeld3
                  try simp only [Act.put, List.setIfInBounds_toArray, List.set_cons_zero, List.set_cons_succ]
                  refine takeN (v := ?_) 28 rfl (by kernel_rfl) (by kernel_rfl) (by kernel_rfl) (fun _ _ _ h => h) (by rfl) ?_ hHeld4 ?_
                  rotate_left
                  · intro w hSw; (try dsimp only at hSw); go_simp; with_reducible rfl
                  try simp only [Act.put, List.setIfInBounds_toArray, List.set_cons_zero, List.set_cons_succ]
                  refine wpAnyH_done (by kernel_rfl) ?_ _
                  go_wp2
                  go_roundw
                  case rel => exact ⟨j + 1, by omega, by go_num, Lib.hid ⟨_, _, _, HS8.out, HKI.out, HKS.out, HX8.out, by have := HKL.out; unfold rkeepL; split <;> simp <;> omega⟩, HB8⟩
                  case measure => simp [intOf]; omega
                exact AllReadyH.nil
              exact AllReadyH.nil
            exact AllReadyH.nil
          exact AllReadyH.nil
        · go_wp2_with fail
          refine (seq_any p (-1) b1 b2 now [] (ixf kl) y.ten HOK.out.t.1 HOK.out.t.2 y.text W5 HS5.out HI.out HOK.out.x).mono ?_
          rintro e w6 ⟨rfl, hb⟩
          have HS6 := Lib.hid (HS5.out.below hb)
          have HX6 := Lib.hid (HX5.out.below hb)
          have BX6 := Lib.hid (BX5.out.below hb)
          have HB6 := Lib.hid (HB5.out.trans (hb.mono HB5.out.size))
          clear hb d1 d2 d3 d4 d5 hc0
          obtain ⟨d1, d2, d3, d4, d5⟩ := BX6.out.cells
          have HRS := Lib.hid (rseq_any y.ten y.text HX6.out hkl2 HOK.out.x)
          obtain ⟨R, hR⟩ : ∃ R, R = seqR (ixf kl) y.ten y.text := ⟨_, rfl⟩
          rw [← hR] at HRS ⊢
          clear hR
          go_wp2_with fail
          refine HRS.out.mono ?_
          rintro e w7 ⟨rfl, hw⟩
          obtain rfl := hw.symm
          clear HRS
          go_wp2_with fail
          go_roundw
          case rel => exact ⟨j + 1, by omega, by go_num, Lib.hid ⟨now, v, kl, HS6.out, HI.out, HT.out.mono (by omega), HX6.out, by have := HKL.out; omega⟩, HB6⟩
          case measure => simp [intOf]; omega
      · have i1 : decide ((j : Int) < (l.length : Int)) = false := decide_eq_false (by omega)
        go_wp2_with fail
        refine (HG.out _).mono ?_
        rintro e wf ⟨rfl, hb⟩
        have HBF := Lib.hid (HB3.out.trans (hb.mono HB3.out.size))
        clear hb
        go_wp2
        go_ret
        exact ⟨rfl, HBF.out⟩
end Go.Proofs.Ytiadoimdohnebaa
