/- The document's disk (chapter 3): a disk made since w0; the walks of its Write and end. -/
import Derived.Test.YtpclfnamknioaaaRef3b
import Derived.Test.YtpclfnamknioaaaApp
namespace Go.Proofs.Ytpclfnamknioaaa
open Go.RowKit
set_option maxRecDepth 100000
set_option maxHeartbeats 1000000
set_option linter.unusedVariables false
set_option linter.unusedSimpArgs false
/-- nothing changes but blocks of the document's disk, made since w0 -/
def KR (w0 w w' : World) : Prop := ∃ F : Nat → Prop, Keep F w w' ∧ ∀ i, F i → w0.heap.size ≤ i ∧ ∃ c e, (e = 50 ∨ e = 9 ∨ e = 73) ∧ w.heap[i]? = some (.cells c e (0, 0))
theorem KR.ofBelow {w0 w w' : World} (h : Below w.heap.size w w') : KR w0 w w' := ⟨fun _ => False, Keep.ofBelow h _, fun _ h => h.elim⟩
theorem KR.refl (w0 w : World) : KR w0 w w := ⟨fun _ => False, Keep.refl _ _, fun _ h => h.elim⟩
theorem KR.trans {w0 a b c : World} (h : KR w0 a b) (k : KR w0 b c) : KR w0 a c := by
  obtain ⟨F, h1, h2⟩ := h
  obtain ⟨G, k1, k2⟩ := k
  refine ⟨fun i => F i ∨ (G i ∧ ¬ F i ∧ i < a.heap.size), (h1.mono (fun i hi => .inl hi)).trans k1 (fun i hi => ?_), fun i hi => ?_⟩
  · rcases Nat.lt_or_ge i a.heap.size with hlt | hge
    · by_cases hf : F i
      · exact .inl (.inl hf)
      · exact .inl (.inr ⟨hi, hf, hlt⟩)
    · exact .inr hge
  · rcases hi with hi | ⟨hi, hf, hlt⟩
    · exact h2 i hi
    · obtain ⟨a1, c', e, he, hc⟩ := k2 i hi
      exact ⟨a1, c', e, he, by rw [← h1.block i hlt hf]; exact hc⟩
theorem KR.below {w0 w w' : World} (h : KR w0 w w') (hb : Below w0.heap.size w0 w) : Below w0.heap.size w0 w' := by
  obtain ⟨F, h1, h2⟩ := h
  exact hb.trans (h1.below hb.size (fun i hi => (h2 i hi).1))
theorem KR.dx {w0 w w' : World} {p bl bw : Nat} {S : DS} (h : KR w0 w w') (hX : DX w0 w p bl bw S) : DX w0 w' p bl bw S := by
  obtain ⟨F, h1, h2⟩ := h
  obtain ⟨ov, d1, d2, d3⟩ := hX
  refine ⟨ov, d1.keep h1 (fun i hi hf => ?_) (fun i c z hc hf => ?_), d2.trans (h1.below d2.size (fun i hi => (h2 i hi).1)), d3⟩
  · obtain ⟨_, c, e, he, hc⟩ := h2 i hf
    rcases hi with rfl | rfl | rfl | hi
    · rw [d1.blk] at hc; simp only [Option.some.injEq, Obj.cells.injEq] at hc; rw [← hc.2.1] at he; exact absurd he (by decide)
    · obtain ⟨ls, g1, _⟩ := d1.lasts; rw [g1] at hc; simp only [Option.some.injEq, Obj.cells.injEq] at hc; rw [← hc.2.1] at he; exact absurd he (by decide)
    · obtain ⟨vs, ⟨es, c', g1, _⟩, _⟩ := d1.waits; rw [g1] at hc; simp at hc
    · obtain ⟨c', g1⟩ := d1.order_blk hi; rw [g1] at hc; simp only [Option.some.injEq, Obj.cells.injEq] at hc; rw [← hc.2.1] at he; exact absurd he (by decide)
  · obtain ⟨_, c', e, he, hc'⟩ := h2 i hf
    rw [hc'] at hc; simp only [Option.some.injEq, Obj.cells.injEq] at hc; rw [hc.2.1] at he; exact absurd he (by decide)
/-- the document's disk, made since w0 -/
def RX (w0 w : World) (p : Nat) (R : R3) : Prop := ∃ vL vN, R3Is w w0.heap.size p vL vN R
section
variable {w0 w : World} {p : Nat} {vL vN : Value} {R : R3}
theorem RX.below {w' : World} (h : RX w0 w p R) (hb : Below w.heap.size w w') : RX w0 w' p R := by
  obtain ⟨vL, vN, h⟩ := h; exact ⟨vL, vN, h.below hb⟩
theorem R3Is.kr {w' : World} (h : R3Is w w0.heap.size p vL vN R) (hk : Keep (RF p vL vN) w w') : KR w0 w w' :=
  ⟨RF p vL vN, hk, fun i hi => by obtain ⟨a, _, c, e, he, hc⟩ := h.own hi; exact ⟨a, c, e, he, hc⟩⟩
theorem RX.fr {w' : World} {pd bl bw : Nat} {S : DS} (h : RX w0 w p R) (hD : DX w0 w pd bl bw S) (hF : FR pd bl w w') : RX w0 w' p R := by
  obtain ⟨vL, vN, h⟩ := h
  obtain ⟨ov, d1, _⟩ := hD
  have key : ∀ i c e, (e = 50 ∨ e = 9 ∨ e = 73) → w.heap[i]? = some (Obj.cells c e (0, 0)) → w'.heap[i]? = some (Obj.cells c e (0, 0)) := fun i c e he hc => by
    refine hF i c e (0, 0) (by rcases he with rfl | rfl | rfl <;> decide) ?_ ?_ hc
    · rintro rfl; rw [d1.blk] at hc; simp only [Option.some.injEq, Obj.cells.injEq] at hc; rw [← hc.2.1] at he; exact absurd he (by decide)
    · rintro rfl; obtain ⟨ls, g1, _⟩ := d1.lasts; rw [g1] at hc; simp only [Option.some.injEq, Obj.cells.injEq] at hc; rw [← hc.2.1] at he; exact absurd he (by decide)
  refine ⟨vL, vN, key _ _ _ (.inl rfl) h.blk, ⟨h.rowL.1, ?_⟩, ⟨h.rowN.1, ?_⟩, h.low, h.lft⟩
  · rcases h.rowL.2 with hn | ⟨g, cap, cur, he, hb, hg, rest⟩
    · exact .inl hn
    · exact .inr ⟨g, cap, cur, he, hb, key g _ _ (.inr (.inl rfl)) hg, rest⟩
  · rcases h.rowN.2 with hn | ⟨g, cap, cur, he, hb, hg, rest⟩
    · exact .inl hn
    · exact .inr ⟨g, cap, cur, he, hb, key g _ _ (.inr (.inr rfl)) hg, rest⟩
end
section
variable {ops : Array Oper} {rest : List Oper} {o : Oper} {a : Act} {Q : Exit → Act → World → Prop}
theorem uWr : Try.prog.underlying 48 = some (.slice 73) := by kernel_rfl
theorem iWr : (Try.prog.info? 73).map (fun i => (i.zero, i.size, i.bytes)) = some (some (.agg #[.int .i64 0, .string ByteArray.empty]), 2, 24) := by kernel_rfl
/-- l = append(l, q), q a written page -/
theorem wp_app_wr {W : World} (base : Nat) (hgd : o.guard = none) (sl x : Operand) (ho : o.op = .call { callee := .builtin .append, args := #[sl, x], argTypes := #[48, 48] })
    (v : Value) (xs : List (Int × ByteArray)) (at_ : Int) (u : ByteArray) (hs : a.eval sl = v) (hx : a.eval x = .slice (some ⟨W.heap.size, 0, none⟩) 1 1) (HO : W.ownsRow base 73 2 v xs.length (xs.flatMap nCells)) (hbase : base ≤ W.heap.size)
    (hl : xs.length ≤ 1000000)
    (h : ∀ v' w', w'.ownsRow base 73 2 v' (xs ++ [(at_, u)]).length ((xs ++ [(at_, u)]).flatMap nCells) → Keep (fun k => v.ownBlock = some k) W w' → (∀ k, v'.ownBlock = some k → v.ownBlock = some k ∨ W.heap.size ≤ k) → wpList Try.prog ops Q rest (a.put o.dst v') w') :
    wpList Try.prog ops Q (o :: rest) a (W.alloc (.cells #[.int .i64 at_, .string u] 73)) := by
  obtain ⟨i0, hi, hzz⟩ := Option.map_eq_some_iff.1 iWr
  simp only [Prod.mk.injEq] at hzz
  obtain ⟨hz0, hz1, hz2⟩ := hzz
  refine wpList_append_own_at (W.alloc (.cells #[.int .i64 at_, .string u] 73)) hgd sl x 48 ho base 73 i0 _ 2 24 uWr hi hz0 hz1 hz2 rfl (by omega) v xs.length (xs.flatMap nCells) hs (rowk_keep ((Keep.refl (fun _ => False) W).alloc _) HO (fun _ _ h => h)) ⟨W.heap.size, 0, none⟩ 1 1 [.int .i64 at_, .string u] hx rfl
    (World.news_of_block (cs := #[.int .i64 at_, .string u]) (t := 73) (fr := (0, 0)) (heap_alloc_new W _)) (by simp [Value.oneCell']) (by simp only [maxLen]; omega) (by omega) (by simp; omega) ?_
  intro v1 w1 hown hg _ hat
  refine h v1 w1 ?_ (((Keep.refl _ W).alloc _).trans (keep_grown hg) (fun i hi => .inl hi)) (fun k hk => ?_)
  · rw [List.flatMap_append, List.length_append]; exact hown
  · rcases hat with hat | hat
    · exact .inl (hat ▸ hk)
    · rw [hat] at hk; cases hk; exact .inr (by simp)
end
section
variable {w0 w : World} {p : Nat} {R : R3}
def rwriteE (R : R3) (at_ : Int) (u : ByteArray) : Int := if sureE R.dead R.L.length at_ u.size = 0 then (if R.left = 0 then 9 else 0) else sureE R.dead R.L.length at_ u.size
def rwriteS (R : R3) (at_ : Int) (u : ByteArray) : R3 := if sureE R.dead R.L.length at_ u.size = 0 then countS { R with N := R.N ++ [(at_, u)] } else R
theorem rwrite_any (at_ : Int) (u : ByteArray) (hX : RX w0 w p R) (hl : R.N.length ≤ 1000) (hu : u.size ≤ maxLen) :
    Calls Try.prog 41 #[rV p, .int .i64 at_, .string u] w fun e w' => e = .returned (.int .i64 (rwriteE R at_ u)) ∧ RX w0 w' p (rwriteS R at_ u) ∧ KR w0 w w' := by
  obtain ⟨vL, vN, hX⟩ := hX
  obtain ⟨la, lc, rfl⟩ := rowk_shape hX.rowL
  obtain ⟨na, nc, rfl⟩ := rowk_shape hX.rowN
  have hu' : u.size ≤ 9223372036854775807 := by unfold maxLen at hu; omega
  have hc0 := hX.c0
  have hc1 := hX.c1
  have hc3 := hX.c3
  have HX := Lib.hid hX
  cases hd : R.dead with
  | true =>
    have E1 := Lib.hid (show rwriteE R at_ u = 9 by unfold rwriteE; rw [hd]; rfl)
    have E2 := Lib.hid (show rwriteS R at_ u = R by unfold rwriteS; rw [hd]; rfl)
    rw [E1.out, E2.out]
    rw [hd] at hc3
    unfold rV
    clear hX hd
    go_enter Try.func41, Try.ntmps41
    go_wp2
    go_ret
    exact ⟨rfl, ⟨_, _, HX.out⟩, KR.refl _ _⟩
  | false =>
    rw [hd] at hc3
    rcases (show at_ < 0 ∨ (0 ≤ at_ ∧ (R.L.length : Int) ≤ at_) ∨ (0 ≤ at_ ∧ at_ < R.L.length ∧ u.size ≠ 4096) ∨ (0 ≤ at_ ∧ at_ < R.L.length ∧ u.size = 4096) by omega) with h1 | ⟨h1, h2⟩ | ⟨h1, h2, h3⟩ | ⟨h1, h2, h3⟩
    · have es : sureE R.dead R.L.length at_ u.size = 1 := by rw [hd]; unfold sureE; rw [if_neg (by decide), if_pos (.inl h1)]
      have E1 := Lib.hid (show rwriteE R at_ u = 1 by unfold rwriteE; rw [es]; rfl)
      have E2 := Lib.hid (show rwriteS R at_ u = R by unfold rwriteS; rw [es]; rfl)
      rw [E1.out, E2.out]
      have i1 : decide (at_ < 0) = true := decide_eq_true h1
      unfold rV
      clear hX hd es
      go_enter Try.func41, Try.ntmps41
      go_wp2
      go_ret
      exact ⟨rfl, ⟨_, _, HX.out⟩, KR.refl _ _⟩
    · have es : sureE R.dead R.L.length at_ u.size = 1 := by rw [hd]; unfold sureE; rw [if_neg (by decide), if_pos (.inr (.inl h2))]
      have E1 := Lib.hid (show rwriteE R at_ u = 1 by unfold rwriteE; rw [es]; rfl)
      have E2 := Lib.hid (show rwriteS R at_ u = R by unfold rwriteS; rw [es]; rfl)
      rw [E1.out, E2.out]
      have i1 : decide (at_ < 0) = false := decide_eq_false (by omega)
      have i2 : decide (at_ ≥ (R.L.length : Int)) = true := decide_eq_true (by omega)
      unfold rV
      clear hX hd es
      go_enter Try.func41, Try.ntmps41
      go_wp2
      go_ret
      exact ⟨rfl, ⟨_, _, HX.out⟩, KR.refl _ _⟩
    · have es : sureE R.dead R.L.length at_ u.size = 1 := by rw [hd]; unfold sureE; rw [if_neg (by decide), if_pos (.inr (.inr (by omega)))]
      have E1 := Lib.hid (show rwriteE R at_ u = 1 by unfold rwriteE; rw [es]; rfl)
      have E2 := Lib.hid (show rwriteS R at_ u = R by unfold rwriteS; rw [es]; rfl)
      rw [E1.out, E2.out]
      have i1 : decide (at_ < 0) = false := decide_eq_false (by omega)
      have i2 : decide (at_ ≥ (R.L.length : Int)) = false := decide_eq_false (by omega)
      have i3 : ((u.size : Int) == 4096) = false := beq_eq_false_iff_ne.2 (by omega)
      unfold rV
      clear hX hd es
      go_enter Try.func41, Try.ntmps41
      go_wp2
      go_ret
      exact ⟨rfl, ⟨_, _, HX.out⟩, KR.refl _ _⟩
    · have es : sureE R.dead R.L.length at_ u.size = 0 := by rw [hd]; unfold sureE; rw [if_neg (by decide), if_neg (by omega)]
      have E1 := Lib.hid (show rwriteE R at_ u = (if R.left = 0 then 9 else 0) by unfold rwriteE; rw [es]; rfl)
      have E2 := Lib.hid (show rwriteS R at_ u = countS { R with N := R.N ++ [(at_, u)] } by unfold rwriteS; rw [es]; rfl)
      rw [E1.out, E2.out]
      obtain ⟨e0, he0⟩ : ∃ e0 : Int, e0 = if R.left = 0 then 9 else 0 := ⟨_, rfl⟩
      rw [← he0]
      have HE0 := Lib.hid he0
      clear he0
      have i1 : decide (at_ < 0) = false := decide_eq_false (by omega)
      have i2 : decide (at_ ≥ (R.L.length : Int)) = false := decide_eq_false (by omega)
      have i3 : ((u.size : Int) == 4096) = true := beq_iff_eq.2 (by omega)
      have hB : w0.heap.size ≤ w.heap.size := Nat.le_trans hX.low (Nat.le_of_lt (blk_lt hX.blk))
      have hfz := hX.fz 1
      obtain ⟨nl, hnl⟩ : ∃ nl, nl = R.N.length := ⟨_, rfl⟩
      have HNL := Lib.hid hnl
      have hrow := hX.rowN
      rw [← hnl] at hc1 HX hrow
      have HROW := Lib.hid hrow
      unfold rV
      clear hX hd es hnl hrow
      go_enter Try.func41, Try.ntmps41
      have hrow2 : w.ownsRow w0.heap.size 73 2 (.slice na nl nc) R.N.length (R.N.flatMap nCells) := by have := HROW.out; rw [HNL.out] at this ⊢; exact this
      have HROW2 := Lib.hid hrow2
      clear hrow2
      go_wp2_with (at_builtin; go_must (refine wp_app_wr w0.heap.size rfl _ _ rfl (.slice na nl nc) R.N at_ u rfl rfl HROW2.out hB (by omega) ?_); intro v6 w6 ho6 hk6 hn6; obtain ⟨a6, c6, rfl⟩ : ∃ a c, v6 = .slice a (R.N.length + 1) c := by { have := rowk_shape ho6; rw [List.length_append, List.length_singleton] at this; exact this }; have HO6 := Lib.hid ho6; have HK6 := Lib.hid hk6; have HN6 := Lib.hid hn6; have hb6 := hk6.blk HX.out.blk (fun e => HX.out.neN e); have hc6 : w6.cell? ⟨p, 1, none⟩ = some (.slice na nl nc) := by { rw [blk_cell hb6]; rfl }; have hf6 := blk_frozen hb6 1; have HB6 := Lib.hid hb6; clear ho6 hk6 hn6 hb6)
      have hk7 : Keep (RF p (.slice la R.L.length lc) (.slice na nl nc)) w (w6.setCell ⟨p, 1, none⟩ (.slice a6 (R.N.length + 1) c6)) := (HK6.out.mono (fun i hi => .inr (.inr hi))).setCell (p := ⟨p, 1, none⟩) (.inl (.inl rfl)) _
      have hv6 : (Value.slice a6 (R.N.length + 1) c6).ownBlock ≠ some p := fun e => by
        rcases HN6.out p e with h | h
        · exact HX.out.neN h
        · have := blk_lt HX.out.blk; omega
      have hx7 : R3Is (w6.setCell ⟨p, 1, none⟩ (.slice a6 (R.N.length + 1) c6)) w0.heap.size p (.slice la R.L.length lc) (.slice a6 (R.N.length + 1) c6) { R with N := R.N ++ [(at_, u)] } := by
        have hk6p : Keep (fun i => i = p) w6 (w6.setCell ⟨p, 1, none⟩ (.slice a6 (R.N.length + 1) c6)) := (Keep.refl (fun i => i = p) w6).setCell (p := ⟨p, 1, none⟩) (.inl rfl) _
        refine ⟨blk_setCell HB6.out 1 (.slice a6 (R.N.length + 1) c6), rowk_keep hk6p (rowk_keep HK6.out HX.out.rowL (fun i hi e => HX.out.neLN hi e)) (fun i hi e => HX.out.neL (by rw [← e]; exact hi)), rowk_keep hk6p HO6.out (fun i hi e => hv6 (by rw [← e]; exact hi)), HX.out.low, HX.out.lft⟩
      have HX7 := Lib.hid hx7
      have HK7 := Lib.hid hk7
      clear hk7 hv6 hx7 hc6 hf6
      go_wp2_with fail
      refine (counts_any HX7.out).mono ?_
      rintro e w8 ⟨rfl, hx8, hk8⟩
      have HX8 := Lib.hid hx8
      have hkr : KR w0 w w8 := HX.out.kr (HK7.out.trans hk8 (fun i hi => .inl (.inl hi)))
      have HKR := Lib.hid hkr
      clear hx8 hk8 hkr
      simp only
      by_cases hl0 : R.left = 0
      · rw [show decide (R.left ≠ 0) = false from decide_eq_false (by simp [hl0])]
        have he : e0 = 9 := by rw [HE0.out, if_pos hl0]
        subst he
        clear hl0
        go_wp2_with fail
        go_ret
        exact ⟨rfl, ⟨_, _, HX8.out⟩, HKR.out⟩
      · rw [show decide (R.left ≠ 0) = true from decide_eq_true hl0]
        have he : e0 = 0 := by rw [HE0.out, if_neg hl0]
        subst he
        clear hl0
        go_wp2_with fail
        go_ret
        exact ⟨rfl, ⟨_, _, HX8.out⟩, HKR.out⟩
end
end Go.Proofs.Ytpclfnamknioaaa
