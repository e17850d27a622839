/- The document's book: Define. -/
import Derived.Test.YtidppalhjknlfaaGreatDoorQRp13
namespace Go.Proofs.YtidppalhjknlfaaGreatDoor
open Go.RowKit
set_option maxRecDepth 100000
set_option maxHeartbeats 4000000
set_option linter.unusedVariables false
set_option linter.unusedSimpArgs false
theorem uTrs : Tryz.prog.underlying 33 = some (.slice 103) := by kernel_rfl
theorem uPls : Tryz.prog.underlying 27 = some (.slice 35) := by kernel_rfl
theorem iPls : (Tryz.prog.info? 35).map (fun i => (i.zero, i.size, i.bytes)) = some (some (.agg #[.int .u32 0, .int .i64 0, .int .i64 0, .int .i64 0, .int .i64 0, .int .i64 0, .slice none 0 0]), shP.sz, 72) := by kernel_rfl
theorem psOf_len (ps : List PV) : (psOf ps).length = ps.length := by simp [psOf]
theorem blk_setCell_ne {w : World} {b q : Nat} {o : Obj} (h : w.heap[b]? = some o) (i : Nat) (u : Value) (hne : q ≠ b) : (w.setCell ⟨q, i, none⟩ u).heap[b]? = some o :=
  ((Keep.refl (fun i => i = q) w).setCell (p := ⟨q, i, none⟩) (.inl rfl) u).blk h (fun e => hne e.symm)
/-- what an act changes, seen from an earlier world -/
theorem Keep.rf_from {base : Nat} {w W w' : World} (hb : Below w.heap.size w W) (hk : Keep (RF base W) W w') : Keep (RF base w) w w' :=
  (Keep.ofBelow hb (RF base w)).trans hk (fun i ⟨h1, c, e, z, h2, h3⟩ => by
    by_cases hi : i < w.heap.size
    · exact .inl ⟨h1, c, e, z, (hb.block i hi).symm.trans h2, h3⟩
    · exact .inr (by omega))
/-- the book's plans grew -/
theorem RB.grown {base : Nat} {W X w8 : World} {q : Nat} {pv tv v' : Value} {ps : List PV} {ts : List TV} {x : PV} (h : RB base W q pv tv ps ts) (hb : Below W.heap.size W X) (hk : Keep (fun k => pv.ownBlock = some k) X w8) (ho : w8.ownsRow base 35 shP.sz v' (ps.length + 1) (shP.cells (ps ++ [x]))) (hx : x.Is W) :
    RB base (w8.setCell ⟨q, 0, none⟩ v') q v' tv (ps ++ [x]) ts ∧ Keep (RF base W) W (w8.setCell ⟨q, 0, none⟩ v') := by
  have hbt := BT.of_row h.pr
  have k8 : Keep (fun k => pv.ownBlock = some k) W w8 := (Keep.ofBelow hb _).trans hk (fun i h => .inl h)
  have k9 := (Keep.refl (fun i => i = q) w8).setCell (p := ⟨q, 0, none⟩) (.inl rfl) v'
  have kk : Keep (fun k => pv.ownBlock = some k ∨ k = q) W (w8.setCell ⟨q, 0, none⟩ v') := (k8.mono (fun i h => .inl h)).trans k9 (fun i h => .inl (.inr h))
  have hne : ∀ g, (pv.ownBlock = some g ∨ g = q) → ∀ c e z, W.heap[g]? = some (.cells c e z) → e = 35 ∨ e = 30 := fun g hg c e z hb' => by
    rcases hg with hg | rfl
    · obtain ⟨c', z', h'⟩ := hbt g hg
      rw [hb'] at h'; cases h'; exact .inl rfl
    · rw [h.blk] at hb'; cases hb'; exact .inr rfl
  have q8 := k8.blk h.blk (fun hg => by
    obtain ⟨c', z', h'⟩ := hbt q hg
    rw [h.blk] at h'; simp at h')
  refine ⟨⟨blk_setCell q8 0 v', h.low, ?_, row_ty h.tr kk (fun g hg c e z hb' => ?_), fun y hy => ?_, fun y hy => ?_, h.ids⟩, kk.mono (fun i hi => ?_)⟩
  · rw [show (ps ++ [x]).length = ps.length + 1 from by simp]
    refine rowS_keep k9 ho (fun g hg e => ?_)
    subst e
    obtain ⟨c', z', h'⟩ := BT.of_row ho g hg
    rw [q8] at h'; simp at h'
  · rcases hne g hg c e z hb' with rfl | rfl <;> decide
  · have hy' : y.Is W := by
      rcases List.mem_append.1 hy with hy | hy
      · exact h.pis y hy
      · rw [List.mem_singleton] at hy; subst hy; exact hx
    exact hy'.ty kk (fun g hg c e z hb' => by rcases hne g hg c e z hb' with rfl | rfl <;> decide)
  · refine (h.tis y hy).ty kk (fun g hg c e z hb' => by rcases hne g hg c e z hb' with rfl | rfl <;> decide) (fun hg => ?_)
    rcases hne y.b hg _ _ _ (h.tis y hy).blk with e | e <;> exact absurd e (by decide)
  · rcases hi with hi | rfl
    · obtain ⟨c', z', h'⟩ := hbt i hi
      exact ⟨(rowS_low h.pr i hi).1, _, _, _, h', .inr (.inl rfl)⟩
    · exact ⟨h.low, _, _, _, h.blk, .inl rfl⟩
/-- Define: what is refused -/
theorem rdef_no (base q : Nat) (pv tv : Value) (ps : List PV) (ts : List TV) (P : Pl) (hid : 0 ≤ P.id ∧ P.id ≤ 4294967295) (a : Option Addr) (c : Nat) (w : World) (h : RB base w q pv tv ps ts) (hl : ps.length ≤ 1000000) (hv : GR shT w (.slice a P.tiers.length c) P.tiers) (hl2 : P.tiers.length ≤ 1000000) (hE : defE (psOf ps) P ≠ 0) :
    Calls Tryz.prog 9 #[.pointer (some ⟨q, 0, none⟩), .agg #[.int .u32 P.id, .int .i64 P.daily, .int .i64 P.monthly, .int .i64 P.over, .int .i64 P.roll, .int .i64 P.base, .slice a P.tiers.length c]] w fun e w' => e = .returned (.int .i64 (defE (psOf ps) P)) ∧ Below w.heap.size w w' := by
  obtain ⟨W, hW⟩ : ∃ W, W = w.alloc (.cells #[.int .u32 P.id, .int .i64 P.daily, .int .i64 P.monthly, .int .i64 P.over, .int .i64 P.roll, .int .i64 P.base, .slice a P.tiers.length c] 35) := ⟨_, rfl⟩
  have hbW : Below w.heap.size w W := by rw [hW]; exact (Below.refl _ _).alloc (Nat.le_refl _) _
  have q0 : W.heap[w.heap.size]? = some (.cells #[.int .u32 P.id, .int .i64 P.daily, .int .i64 P.monthly, .int .i64 P.over, .int .i64 P.roll, .int .i64 P.base, .slice a P.tiers.length c] 35 (0, 0)) := by rw [hW]; exact blk_new _ _
  have HCK := Lib.hid (rpcheck_any P hid a c W (hv.below hbW) hl2)
  have HPL := Lib.hid fun (X : World) (hb : Below W.heap.size W X) => rplan_any base q pv tv ps ts P.id X ((h.below hbW).below hb) hl
  obtain ⟨E, hEE⟩ : ∃ E, E = defE (psOf ps) P := ⟨_, rfl⟩
  rw [← hEE] at hE ⊢
  have HE := Lib.hid hEE
  have HN := Lib.hid hE
  have HBW := Lib.hid hbW
  have Q0 := Lib.hid q0
  have k0 := blk_cell q0 0
  have k1 := blk_cell q0 1
  have k2 := blk_cell q0 2
  have k3 := blk_cell q0 3
  have k4 := blk_cell q0 4
  have k5 := blk_cell q0 5
  have k6 := blk_cell q0 6
  clear h hv hbW q0 hEE hE
  go_enter Tryz.func9, Tryz.ntmps9
  go_upto_region 1 with fail
  rw [← hW]
  clear hW
  cases hck : plchk P with
  | false =>
    have hE2 : E = 1 := by rw [HE.out]; unfold defE; rw [if_pos hck]
    obtain rfl := hE2
    rw [hck] at HCK
    clear hck
    go_wp2_with fail
    refine HCK.out.mono ?_
    rintro e w1 ⟨rfl, hb⟩
    have HB1 := Lib.hid (HBW.out.trans (hb.mono HBW.out.size))
    clear hb
    go_wp2
    go_ret
    exact ⟨rfl, HB1.out⟩
  | true =>
    cases hf : pfV ps P.id with
    | none =>
      exfalso
      refine HN.out ?_
      rw [HE.out]; unfold defE
      rw [hck, if_neg (by decide), pfV_eq, hf]; rfl
    | some x =>
      have hE2 : E = 5 := by
        rw [HE.out]; unfold defE
        rw [hck, if_neg (by decide), pfV_eq, hf]; rfl
      obtain rfl := hE2
      rw [hck] at HCK
      rw [hf] at HPL
      rw [show ((some x : Option PV).getD PV.zero) = x from rfl, show (some x : Option PV).isSome = true from rfl] at HPL
      unfold PV.val at HPL
      clear hck hf
      go_wp2_with fail
      refine HCK.out.mono ?_
      rintro e w1 ⟨rfl, hb⟩
      have HB1 := Lib.hid (HBW.out.trans (hb.mono HBW.out.size))
      have c0 := blk_cell ((Keep.ofBelow hb (fun _ => False)).blk Q0.out (fun h => h)) 0
      have HBb := Lib.hid hb
      clear hb k0 k1 k2 k3 k4 k5 k6
      go_wp2_with fail
      refine (HPL.out _ HBb.out).mono ?_
      rintro e w2 ⟨rfl, hb⟩
      have HB2 := Lib.hid (HB1.out.trans (hb.mono HB1.out.size))
      clear hb c0
      go_wp2
      go_ret
      exact ⟨rfl, HB2.out.alloc HB2.out.size _⟩
theorem rdef_yes (base q : Nat) (pv tv : Value) (ps : List PV) (ts : List TV) (P : Pl) (hid : 0 ≤ P.id ∧ P.id ≤ 4294967295) (a : Option Addr) (c : Nat) (w : World) (h : RB base w q pv tv ps ts) (hbw : base ≤ w.heap.size) (hl : ps.length ≤ 1000) (hv : GR shT w (.slice a P.tiers.length c) P.tiers) (hE : defE (psOf ps) P = 0) :
    Calls Tryz.prog 9 #[.pointer (some ⟨q, 0, none⟩), .agg #[.int .u32 P.id, .int .i64 P.daily, .int .i64 P.monthly, .int .i64 P.over, .int .i64 P.roll, .int .i64 P.base, .slice a P.tiers.length c]] w fun e w' => e = .returned (.int .i64 0) ∧ (∃ pv' x, x.P = P ∧ RB base w' q pv' tv (ps ++ [x]) ts) ∧ Keep (RF base w) w w' := by
  have hck : plchk P = true := by
    cases hh : plchk P with
    | true => rfl
    | false => unfold defE at hE; rw [if_pos hh] at hE; cases hE
  have hlt : 1 ≤ P.tiers.length ∧ P.tiers.length ≤ 4 := by
    have := hck
    unfold plchk tchk at this
    simp only [Bool.and_eq_true, decide_eq_true_eq] at this
    exact this.2.2.1
  have hf : pfV ps P.id = none := by
    cases hh : pfV ps P.id with
    | none => rfl
    | some x => unfold defE at hE; rw [hck, if_neg (by decide), pfV_eq, hh] at hE; cases hE
  obtain ⟨pa, pc, rfl, _⟩ := (GR.of_row (S := shP) h.pr).shape
  obtain ⟨W, hW⟩ : ∃ W, W = w.alloc (.cells #[.int .u32 P.id, .int .i64 P.daily, .int .i64 P.monthly, .int .i64 P.over, .int .i64 P.roll, .int .i64 P.base, .slice a P.tiers.length c] 35) := ⟨_, rfl⟩
  have hbW : Below w.heap.size w W := by rw [hW]; exact (Below.refl _ _).alloc (Nat.le_refl _) _
  have q0 : W.heap[w.heap.size]? = some (.cells #[.int .u32 P.id, .int .i64 P.daily, .int .i64 P.monthly, .int .i64 P.over, .int .i64 P.roll, .int .i64 P.base, .slice a P.tiers.length c] 35 (0, 0)) := by rw [hW]; exact blk_new _ _
  have HCK := Lib.hid (rpcheck_any P hid a c W (hv.below hbW) (by omega))
  have HPL := Lib.hid fun (X : World) (hb : Below W.heap.size W X) => rplan_any base q (.slice pa ps.length pc) tv ps ts P.id X ((h.below hbW).below hb) (by omega)
  rw [hck] at HCK
  rw [hf, show (((none : Option PV).getD PV.zero).val) = .agg #[.int .u32 0, .int .i64 0, .int .i64 0, .int .i64 0, .int .i64 0, .int .i64 0, .slice none 0 0] from rfl, show (none : Option PV).isSome = false from rfl] at HPL
  have HBW := Lib.hid hbW
  have Q0 := Lib.hid q0
  have HV := Lib.hid hv
  have HH := Lib.hid h
  have hqw : q < w.heap.size := blk_lt h.blk
  have HLT := Lib.hid hlt
  have k0 := blk_cell q0 0
  have k1 := blk_cell q0 1
  have k2 := blk_cell q0 2
  have k3 := blk_cell q0 3
  have k4 := blk_cell q0 4
  have k5 := blk_cell q0 5
  have k6 := blk_cell q0 6
  clear h hv hbW q0 hE hck hf hlt
  go_enter Tryz.func9, Tryz.ntmps9
  go_upto_region 1 with fail
  rw [← hW]
  clear hW
  go_wp2_with fail
  refine HCK.out.mono ?_
  rintro e w1 ⟨rfl, hb⟩
  have HB1 := Lib.hid (HBW.out.trans (hb.mono HBW.out.size))
  have c0 := blk_cell ((Keep.ofBelow hb (fun _ => False)).blk Q0.out (fun h => h)) 0
  have HBb := Lib.hid hb
  clear hb k0 k1 k2 k3 k4 k5 k6 HCK
  go_wp2_with fail
  refine (HPL.out _ HBb.out).mono ?_
  rintro e w2 ⟨rfl, hb⟩
  obtain ⟨w3, hw3⟩ : ∃ w3, w3 = w2.alloc (.cells #[.int .u32 0, .int .i64 0, .int .i64 0, .int .i64 0, .int .i64 0, .int .i64 0, .slice none 0 0] 35) := ⟨_, rfl⟩
  have hb3 : Below w2.heap.size w2 w3 := by rw [hw3]; exact (Below.refl _ _).alloc (Nat.le_refl _) _
  have hWw3 : Below W.heap.size W w3 := (HBb.out.trans (hb.mono HBb.out.size)).trans (hb3.mono (Nat.le_trans HBb.out.size hb.size))
  have q3 := (Keep.ofBelow hWw3 (fun _ => False)).blk Q0.out (fun h => h)
  have HB3 := Lib.hid (HBW.out.trans (hWw3.mono HBW.out.size))
  have Q3 := Lib.hid q3
  have hws : w.heap.size < W.heap.size := blk_lt Q0.out
  have hs3 := hWw3.size
  have c6 := blk_cell q3 6
  clear hb hb3 hWw3 q3 c0 HPL HBb HB1
  go_upto_region 6 with fail
  rw [← hw3]
  clear hw3
  have R0 := Lib.hid (row_none w3 103 shT.sz)
  have HVV := Lib.hid ((HV.out.below HB3.out).alloc (.cells #[] 103))
  have Q4 := Lib.hid (blk_alloc Q3.out (.cells #[] 103))
  have c6b := blk_cell Q4.out 6
  clear c6
  have hlt1 := HLT.out.1
  have hlt4 := HLT.out.2
  go_upto_region 7 with (at_builtin; go_must (
    refine wp_app_g 33 103 16 _ uTr iTr rfl (by decide) w3.heap.size rfl _ _ rfl _ _ [] P.tiers rfl rfl R0.out HVV.out (by simp) (by simp) (by omega) ?_
    rw [List.nil_append]
    intro v6 w6 ho hk hat
    obtain ⟨a6, c6', rfl⟩ := rowS_shape ho
    have q6 := hk.blk Q4.out (fun e => by have e' : some w3.heap.size = some w.heap.size := e; injection e' with e'; omega)
    have f6 := blk_frozen q6 6
    have d6 := blk_cell q6 6
    have HO6 := Lib.hid ho
    have HK6 := Lib.hid hk
    have Q6 := Lib.hid q6
    clear ho hk hat q6))
  obtain ⟨W7, hW7⟩ : ∃ W7, W7 = w6.setCell ⟨w.heap.size, 6, none⟩ (.slice a6 P.tiers.length c6') := ⟨_, rfl⟩
  have q7 : W7.heap[w.heap.size]? = some (.cells #[.int .u32 P.id, .int .i64 P.daily, .int .i64 P.monthly, .int .i64 P.over, .int .i64 P.roll, .int .i64 P.base, .slice a6 P.tiers.length c6'] 35 (0, 0)) := by rw [hW7]; exact blk_setCell Q6.out 6 _
  have hb36 : Below w3.heap.size w3 w6 := (((Below.refl w3.heap.size w3).alloc (Nat.le_refl _) (.cells #[] 103))).trans (HK6.out.below (B := w3.heap.size) (by simp) (fun k hk => by have e' : some w3.heap.size = some k := hk; injection e' with e'; omega))
  have hb6 := HB3.out.trans (hb36.mono HB3.out.size)
  have hb7 : Below w.heap.size w W7 := by rw [hW7]; exact hb6.setCell (p := ⟨w.heap.size, 6, none⟩) (Nat.le_refl _) _
  have hlow6 := rowS_low HO6.out
  have ho7 : W7.ownsRow w3.heap.size 103 shT.sz (.slice a6 P.tiers.length c6') P.tiers.length (shT.cells P.tiers) := by
    rw [hW7]
    exact rowS_keep ((Keep.refl (fun i => i = w.heap.size) w6).setCell (p := ⟨w.heap.size, 6, none⟩) (.inl rfl) _) HO6.out (fun g hg e => by have := (hlow6 g hg).1; omega)
  rw [← hW7]
  have H7 := HH.out.below hb7
  have HR7 := Lib.hid H7
  have HO7 := Lib.hid ho7
  have HB7 := Lib.hid hb7
  have QQ7 := Lib.hid (show W7.drew.heap[q]? = _ from H7.blk)
  have QB7 := Lib.hid (show W7.drew.heap[w.heap.size]? = _ from q7)
  have HP7 := Lib.hid (show W7.drew.ownsRow base 35 shP.sz (.slice pa ps.length pc) ps.length (shP.cells ps) from H7.pr)
  have CC := Lib.hid fun (X : World) (h2 : X.heap[w.heap.size]? = some (.cells #[.int .u32 P.id, .int .i64 P.daily, .int .i64 P.monthly, .int .i64 P.over, .int .i64 P.roll, .int .i64 P.base, .slice a6 P.tiers.length c6'] 35 (0, 0))) => show X.cell? ⟨w.heap.size, 0, none⟩ = some (.int .u32 P.id) ∧ X.cell? ⟨w.heap.size, 1, none⟩ = some (.int .i64 P.daily) ∧ X.cell? ⟨w.heap.size, 2, none⟩ = some (.int .i64 P.monthly) ∧ X.cell? ⟨w.heap.size, 3, none⟩ = some (.int .i64 P.over) ∧ X.cell? ⟨w.heap.size, 4, none⟩ = some (.int .i64 P.roll) ∧ X.cell? ⟨w.heap.size, 5, none⟩ = some (.int .i64 P.base) ∧ X.cell? ⟨w.heap.size, 6, none⟩ = some ((.slice a6 P.tiers.length c6')) from ⟨blk_cell h2 0, blk_cell h2 1, blk_cell h2 2, blk_cell h2 3, blk_cell h2 4, blk_cell h2 5, blk_cell h2 6⟩
  obtain ⟨NB, hNB⟩ : ∃ NB, NB = (.cells #[.int .u32 P.id, .int .i64 P.daily, .int .i64 P.monthly, .int .i64 P.over, .int .i64 P.roll, .int .i64 P.base, .slice a6 P.tiers.length c6'] 35 : Obj) := ⟨_, rfl⟩
  have QQ7b := Lib.hid (show (W7.alloc NB).drew.heap[q]? = _ from blk_alloc H7.blk NB)
  have QB7b := Lib.hid (show (W7.alloc NB).drew.heap[w.heap.size]? = _ from blk_alloc q7 NB)
  have FIN := Lib.hid fun (w8 : World) (a8 : Option Addr) (c8 : Nat) (ho : w8.ownsRow base 35 shP.sz (.slice a8 (ps.length + 1) c8) (ps.length + 1) (shP.cells (ps ++ [⟨P, a6, c6'⟩]))) (hk : Keep (fun k => (Value.slice pa ps.length pc).ownBlock = some k) (W7.alloc NB).drew w8) => show (∃ pv' x, x.P = P ∧ RB base (w8.setCell ⟨q, 0, none⟩ (.slice a8 (ps.length + 1) c8)) q pv' tv (ps ++ [x]) ts) ∧ Keep (RF base w) w (w8.setCell ⟨q, 0, none⟩ (.slice a8 (ps.length + 1) c8)) from by
    obtain ⟨f1, f2⟩ := H7.grown (X := (W7.alloc NB).drew) (((Keep.refl (fun _ => False) W7).alloc NB).drew.below (Nat.le_refl _) (fun _ h => h.elim)) hk ho ⟨GR.of_row (S := shT) ho7, BT.of_row ho7⟩
    exact ⟨⟨_, ⟨P, a6, c6'⟩, rfl, f1⟩, Keep.rf_from hb7 f2⟩
  have kq := blk_cell QQ7.out 0
  have kqb := blk_cell QQ7b.out 0
  rw [hNB] at QQ7b QB7b kqb FIN
  have hs7 := hb7.size
  have hqp : q ≠ w.heap.size := by omega
  have HLP := Lib.hid (rowS_low HH.out.pr)
  clear hW7 q7 hb36 hb6 hb7 hlow6 ho7 H7 d6 f6 c6b
  refine wp_region_held_drew (S := (fun w' => w'.cell? ⟨w.heap.size, 0, none⟩ = some (.int .u32 P.id) ∧ w'.cell? ⟨w.heap.size, 1, none⟩ = some (.int .i64 P.daily) ∧ w'.cell? ⟨w.heap.size, 2, none⟩ = some (.int .i64 P.monthly) ∧ w'.cell? ⟨w.heap.size, 3, none⟩ = some (.int .i64 P.over) ∧ w'.cell? ⟨w.heap.size, 4, none⟩ = some (.int .i64 P.roll) ∧ w'.cell? ⟨w.heap.size, 5, none⟩ = some (.int .i64 P.base) ∧ w'.cell? ⟨w.heap.size, 6, none⟩ = some ((.slice a6 P.tiers.length c6')))) (by kernel_rfl) ?_ (fun hHeld0 => ?_)
  · (try dsimp only)
    first | with_reducible exact CC.out _ QB7.out | with_reducible exact CC.out _ QB7b.out | with_reducible exact CC.out _ QB8.out | with_reducible exact CC.out _ (blk_setCell_ne QB8.out 0 _ hqp)
  refine takeN (v := ?_) 0 rfl (by kernel_rfl) (by kernel_rfl) (by kernel_rfl) (fun _ _ _ h => h) (by rfl) ?_ hHeld0 ?_
  rotate_left
  · intro w hSw; (try dsimp only at hSw); go_simp; with_reducible rfl
  try simp only [Act.put, List.setIfInBounds_toArray, List.set_cons_zero, List.set_cons_succ]
  refine takeN (v := ?_) 1 rfl (by kernel_rfl) (by kernel_rfl) (by kernel_rfl) (fun _ _ _ h => h) (by rfl) ?_ hHeld0 ?_
  rotate_left
  · intro w hSw; (try dsimp only at hSw); go_simp; with_reducible rfl
  try simp only [Act.put, List.setIfInBounds_toArray, List.set_cons_zero, List.set_cons_succ]
  refine takeN (v := ?_) 2 rfl (by kernel_rfl) (by kernel_rfl) (by kernel_rfl) (fun _ _ _ h => h) (by rfl) ?_ hHeld0 ?_
  rotate_left
  · intro w hSw; (try dsimp only at hSw); go_simp; with_reducible rfl
  try simp only [Act.put, List.setIfInBounds_toArray, List.set_cons_zero, List.set_cons_succ]
  refine takeN (v := ?_) 3 rfl (by kernel_rfl) (by kernel_rfl) (by kernel_rfl) (fun _ _ _ h => h) (by rfl) ?_ hHeld0 ?_
  rotate_left
  · intro w hSw; (try dsimp only at hSw); go_simp; with_reducible rfl
  try simp only [Act.put, List.setIfInBounds_toArray, List.set_cons_zero, List.set_cons_succ]
  refine takeN (v := ?_) 5 rfl (by kernel_rfl) (by kernel_rfl) (by kernel_rfl) (fun _ _ _ h => h) (by rfl) ?_ hHeld0 ?_
  rotate_left
  · intro w hSw; (try dsimp only at hSw); go_simp; with_reducible rfl
  try simp only [Act.put, List.setIfInBounds_toArray, List.set_cons_zero, List.set_cons_succ]
  refine wpAnyH_ready (rs := [4, 6]) (by kernel_rfl) (by simp) ?_
  refine readyN rfl (fun K hK => ?_) ?_
  · -- operation 4
    go_simp
    refine hK.out _ _ ?_ (fun hHeld1 => ?_)
    · (try dsimp only)
      first | with_reducible exact CC.out _ QB7.out | with_reducible exact CC.out _ QB7b.out | with_reducible exact CC.out _ QB8.out | with_reducible exact CC.out _ (blk_setCell_ne QB8.out 0 _ hqp)
    clear hK K hHeld0
    try simp only [Act.put, List.setIfInBounds_toArray, List.set_cons_zero, List.set_cons_succ]
    refine wpAnyH_ready (rs := [6]) (by kernel_rfl) (by simp) ?_
    refine readyN rfl (fun K hK => ?_) ?_
    · -- operation 6
      go_simp
      refine hK.out _ _ ?_ (fun hHeld2 => ?_)
      · (try dsimp only)
        first | with_reducible exact CC.out _ QB7.out | with_reducible exact CC.out _ QB7b.out | with_reducible exact CC.out _ QB8.out | with_reducible exact CC.out _ (blk_setCell_ne QB8.out 0 _ hqp)
      clear hK K hHeld1
      try simp only [Act.put, List.setIfInBounds_toArray, List.set_cons_zero, List.set_cons_succ]
      refine wpAnyH_ready (rs := [7]) (by kernel_rfl) (by simp) ?_
      refine readyN rfl (fun K hK => ?_) ?_
      · -- operation 7
        (refine wp_app_go 27 35 72 _ uPls iPls rfl (by decide) base _ _ rfl (.slice pa ps.length pc) (.slice (some ⟨W7.heap.size, 0, none⟩) 1 1) ps [⟨P, a6, c6'⟩] rfl rfl (rowS_below HP7.out ((Below.refl _ _).alloc (Nat.le_refl _) _)) (GR.lit (S := shP) W7.drew _ [⟨P, a6, c6'⟩] (by simp)) (by simp) (by simp; omega) (by omega) (by simp) ?_
         intro v8 w8 ho hk hat
         obtain ⟨a8, c8, rfl⟩ := rowS_shape ho
         have hbt := BT.of_row HP7.out
         have hne : ∀ k c e z, W7.drew.heap[k]? = some (.cells c e z) → e ≠ 35 → ¬ (Value.slice pa ps.length pc).ownBlock = some k := fun k c e z hk' he hg => by
           obtain ⟨c', z', hb'⟩ := hbt k hg
           rw [hk'] at hb'; cases hb'; exact he rfl
         have QQ8 := Lib.hid (hk.blk QQ7b.out (hne q _ _ _ QQ7.out (by decide)))
         have QB8 := Lib.hid (hk.blk QB7b.out (fun hg => by have := (HLP.out _ hg).2; omega))
         have f8 := blk_frozen QQ8.out 0
         have k8 := blk_cell QQ8.out 0
         have HO8 := Lib.hid ho
         have HK8 := Lib.hid hk
         clear ho hk hat)
        refine hK.out _ _ ?_ (fun hHeld3 => ?_)
        · (try dsimp only)
          first | with_reducible exact CC.out _ QB7.out | with_reducible exact CC.out _ QB7b.out | with_reducible exact CC.out _ QB8.out | with_reducible exact CC.out _ (blk_setCell_ne QB8.out 0 _ hqp)
        clear hK K hHeld2
        try simp only [Act.put, List.setIfInBounds_toArray, List.set_cons_zero, List.set_cons_succ]
        refine takeN (v := ?_) 8 rfl (by kernel_rfl) (by kernel_rfl) (by kernel_rfl) (fun _ _ _ h => h) (by rfl) ?_ hHeld3 ?_
        rotate_left
        · intro w hSw; (try dsimp only at hSw); go_simp; with_reducible rfl
        try simp only [Act.put, List.setIfInBounds_toArray, List.set_cons_zero, List.set_cons_succ]
        refine takeN (v := ?_) 9 rfl (by kernel_rfl) (by kernel_rfl) (by kernel_rfl) (fun _ _ _ h => h) (by rfl) ?_ hHeld3 ?_
        rotate_left
        · intro w hSw; (try dsimp only at hSw); go_simp; with_reducible rfl
        try simp only [Act.put, List.setIfInBounds_toArray, List.set_cons_zero, List.set_cons_succ]
        refine wpAnyH_ready (rs := [10]) (by kernel_rfl) (by simp) ?_
        refine readyN rfl (fun K hK => ?_) ?_
        · -- operation 10
          go_simp
          refine hK.out _ _ ?_ (fun hHeld4 => ?_)
          · (try dsimp only)
            first | with_reducible exact CC.out _ QB7.out | with_reducible exact CC.out _ QB7b.out | with_reducible exact CC.out _ QB8.out | with_reducible exact CC.out _ (blk_setCell_ne QB8.out 0 _ hqp)
          clear hK K hHeld3
          try simp only [Act.put, List.setIfInBounds_toArray, List.set_cons_zero, List.set_cons_succ]
          refine wpAnyH_done (by kernel_rfl) ?_ _
          go_wp2
          go_ret
          exact ⟨rfl, FIN.out _ _ _ HO8.out HK8.out⟩
        exact AllReadyH.nil
      exact AllReadyH.nil
    exact AllReadyH.nil
  refine readyN rfl (fun K hK => ?_) ?_
  · -- operation 6
    go_simp
    refine hK.out _ _ ?_ (fun hHeld1 => ?_)
    · (try dsimp only)
      first | with_reducible exact CC.out _ QB7.out | with_reducible exact CC.out _ QB7b.out | with_reducible exact CC.out _ QB8.out | with_reducible exact CC.out _ (blk_setCell_ne QB8.out 0 _ hqp)
    clear hK K hHeld0
    try simp only [Act.put, List.setIfInBounds_toArray, List.set_cons_zero, List.set_cons_succ]
    refine wpAnyH_ready (rs := [4]) (by kernel_rfl) (by simp) ?_
    refine readyN rfl (fun K hK => ?_) ?_
    · -- operation 4
      go_simp
      refine hK.out _ _ ?_ (fun hHeld2 => ?_)
      · (try dsimp only)
        first | with_reducible exact CC.out _ QB7.out | with_reducible exact CC.out _ QB7b.out | with_reducible exact CC.out _ QB8.out | with_reducible exact CC.out _ (blk_setCell_ne QB8.out 0 _ hqp)
      clear hK K hHeld1
      try simp only [Act.put, List.setIfInBounds_toArray, List.set_cons_zero, List.set_cons_succ]
      refine wpAnyH_ready (rs := [7]) (by kernel_rfl) (by simp) ?_
      refine readyN rfl (fun K hK => ?_) ?_
      · -- operation 7
        (refine wp_app_go 27 35 72 _ uPls iPls rfl (by decide) base _ _ rfl (.slice pa ps.length pc) (.slice (some ⟨W7.heap.size, 0, none⟩) 1 1) ps [⟨P, a6, c6'⟩] rfl rfl (rowS_below HP7.out ((Below.refl _ _).alloc (Nat.le_refl _) _)) (GR.lit (S := shP) W7.drew _ [⟨P, a6, c6'⟩] (by simp)) (by simp) (by simp; omega) (by omega) (by simp) ?_
         intro v8 w8 ho hk hat
         obtain ⟨a8, c8, rfl⟩ := rowS_shape ho
         have hbt := BT.of_row HP7.out
         have hne : ∀ k c e z, W7.drew.heap[k]? = some (.cells c e z) → e ≠ 35 → ¬ (Value.slice pa ps.length pc).ownBlock = some k := fun k c e z hk' he hg => by
           obtain ⟨c', z', hb'⟩ := hbt k hg
           rw [hk'] at hb'; cases hb'; exact he rfl
         have QQ8 := Lib.hid (hk.blk QQ7b.out (hne q _ _ _ QQ7.out (by decide)))
         have QB8 := Lib.hid (hk.blk QB7b.out (fun hg => by have := (HLP.out _ hg).2; omega))
         have f8 := blk_frozen QQ8.out 0
         have k8 := blk_cell QQ8.out 0
         have HO8 := Lib.hid ho
         have HK8 := Lib.hid hk
         clear ho hk hat)
        refine hK.out _ _ ?_ (fun hHeld3 => ?_)
        · (try dsimp only)
          first | with_reducible exact CC.out _ QB7.out | with_reducible exact CC.out _ QB7b.out | with_reducible exact CC.out _ QB8.out | with_reducible exact CC.out _ (blk_setCell_ne QB8.out 0 _ hqp)
        clear hK K hHeld2
        try simp only [Act.put, List.setIfInBounds_toArray, List.set_cons_zero, List.set_cons_succ]
        refine takeN (v := ?_) 8 rfl (by kernel_rfl) (by kernel_rfl) (by kernel_rfl) (fun _ _ _ h => h) (by rfl) ?_ hHeld3 ?_
        rotate_left
        · intro w hSw; (try dsimp only at hSw); go_simp; with_reducible rfl
        try simp only [Act.put, List.setIfInBounds_toArray, List.set_cons_zero, List.set_cons_succ]
        refine takeN (v := ?_) 9 rfl (by kernel_rfl) (by kernel_rfl) (by kernel_rfl) (fun _ _ _ h => h) (by rfl) ?_ hHeld3 ?_
        rotate_left
        · intro w hSw; (try dsimp only at hSw); go_simp; with_reducible rfl
        try simp only [Act.put, List.setIfInBounds_toArray, List.set_cons_zero, List.set_cons_succ]
        refine wpAnyH_ready (rs := [10]) (by kernel_rfl) (by simp) ?_
        refine readyN rfl (fun K hK => ?_) ?_
        · -- operation 10
          go_simp
          refine hK.out _ _ ?_ (fun hHeld4 => ?_)
          · (try dsimp only)
            first | with_reducible exact CC.out _ QB7.out | with_reducible exact CC.out _ QB7b.out | with_reducible exact CC.out _ QB8.out | with_reducible exact CC.out _ (blk_setCell_ne QB8.out 0 _ hqp)
          clear hK K hHeld3
          try simp only [Act.put, List.setIfInBounds_toArray, List.set_cons_zero, List.set_cons_succ]
          refine wpAnyH_done (by kernel_rfl) ?_ _
          go_wp2
          go_ret
          exact ⟨rfl, FIN.out _ _ _ HO8.out HK8.out⟩
        exact AllReadyH.nil
      exact AllReadyH.nil
    exact AllReadyH.nil
  exact AllReadyH.nil
end Go.Proofs.YtidppalhjknlfaaGreatDoor
