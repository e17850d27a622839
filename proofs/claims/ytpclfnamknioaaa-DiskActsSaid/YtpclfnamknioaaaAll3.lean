/- The walks of the law's all, same, Great (chapter 3). -/
import Derived.Test.YtpclfnamknioaaaDoes3
namespace Go.Proofs.Ytpclfnamknioaaa
open Go.RowKit
set_option maxRecDepth 100000
set_option maxHeartbeats 1000000
set_option linter.unusedVariables false
set_option linter.unusedSimpArgs false
/-- v is an own row of pages -/
structure PL (w : World) (B : Nat) (v : Value) (l : List ByteArray) : Prop where
  row : ∃ vs, w.ownsRow B 27 1 v l.length vs ∧ ∀ (i : Nat) s, l[i]? = some s → ∃ x, vs[i]? = some x ∧ Own 5 w B x s
  sz : ∀ s ∈ l, s.size = 4096
theorem PL.nil (w : World) (B : Nat) : PL w B (.slice none 0 0) [] := ⟨⟨[], World.ownsRow_nil _ _ _ _, by simp⟩, by simp⟩
theorem PL.below {w w' : World} {B : Nat} {v : Value} {l : List ByteArray} (h : PL w B v l) (hb : Below w.heap.size w w') : PL w' B v l := by
  obtain ⟨⟨vs, h1, h2⟩, h3⟩ := h
  refine ⟨⟨vs, ⟨h1.1, ?_⟩, fun i s hs => by obtain ⟨x, a, b⟩ := h2 i s hs; exact ⟨x, a, b.below hb⟩⟩, h3⟩
  rcases h1.2 with hn | ⟨g, cap, cur, he, hbg, hg, rest⟩
  · exact .inl hn
  · exact .inr ⟨g, cap, cur, he, hbg, (Keep.ofBelow hb (fun _ => False)).blk hg (fun h => h), rest⟩
theorem World.ownsRow_below {w w' : World} {B : Nat} {e : TypeId} {n k : Nat} {v : Value} {xs : List Value} (h : w.ownsRow B e n v k xs) (hb : Below w.heap.size w w') : w'.ownsRow B e n v k xs := by
  refine ⟨h.1, ?_⟩
  rcases h.2 with hn | ⟨g, cap, cur, he, hbg, hg, rest⟩
  · exact .inl hn
  · exact .inr ⟨g, cap, cur, he, hbg, (Keep.ofBelow hb (fun _ => False)).blk hg (fun h => h), rest⟩
section
variable {w0 w : World} {p bl bw : Nat} {S : DS}
theorem all_dead (hX : DX w0 w p bl bw S) (hpos : 0 < S.L.length) (hd : S.dead = true) :
    Calls Try.prog 26 #[dV p] w fun e w' => e = .returned (.slice none 0 0) ∧ DX w0 w' p bl bw S ∧ Below w.heap.size w w' := by
  have hs : sureE S.dead S.L.length 0 4096 = 9 := by rw [hd]; rfl
  have i1 : decide ((0 : Int) < (S.L.length : Int)) = true := decide_eq_true (by omega)
  have HX := Lib.hid hX
  unfold dV
  clear hX hd
  go_enter Try.func26, Try.ntmps26
  go_wp2_with fail
  go_loopw [3, 4] (fun v s wr => v = .slice none 0 0 ∧ s = .int .i64 0 ∧ Hid (wr = w)) (fun _ s _ => 1)
  case atStart => exact ⟨rfl, rfl, Lib.hid rfl⟩
  case round =>
    obtain ⟨rfl, rfl, HW⟩ := hrel
    obtain rfl := HW.out
    go_wp2_with fail
    refine (x_size HX.out).mono ?_
    rintro e w1 ⟨rfl, rfl⟩
    go_wp2_with fail
    refine (x_read 0 HX.out).mono ?_
    rintro e w2 ⟨v, rfl, _, hv, hb, hx⟩
    rw [hs] at hv ⊢
    obtain rfl := hv (by decide)
    have HX2 := Lib.hid hx
    have HB2 := Lib.hid hb
    clear hx hb hv
    go_wp2_with fail
    go_ret
    exact ⟨rfl, HX2.out, HB2.out⟩
theorem uRow : Try.prog.underlying 54 = some (.slice 27) := by kernel_rfl
theorem all_live (hX : DX w0 w p bl bw S) (hd : S.dead = false) :
    Calls Try.prog 26 #[dV p] w fun e w' => ∃ v, e = .returned v ∧ PL w' w.heap.size v ((List.range S.L.length).map fun (k : Nat) => readP S k) ∧ DX w0 w' p bl bw S ∧ Below w.heap.size w w' := by
  have hlen := hX.len
  have HX := Lib.hid hX
  have HDD := Lib.hid hd
  obtain ⟨i0, hi, hzz⟩ := Option.map_eq_some_iff.1 iPages
  simp only [Prod.mk.injEq] at hzz
  obtain ⟨hz0, hz1, hz2⟩ := hzz
  have HI := Lib.hid hi
  unfold dV
  clear hX hi hd
  go_enter Try.func26, Try.ntmps26
  go_wp2_with fail
  go_loopw [3, 4] (fun v s wr => ∃ i : Nat, i ≤ S.L.length ∧ s = .int .i64 i ∧ Hid (PL wr w.heap.size v ((List.range i).map fun (k : Nat) => readP S k)) ∧ Hid (DX w0 wr p bl bw S) ∧ Hid (Below w.heap.size w wr)) (fun _ s _ => S.L.length - (intOf s).toNat)
  case atStart => exact ⟨0, by omega, rfl, Lib.hid (PL.nil _ _), HX, Lib.hid (Below.refl _ _)⟩
  case round =>
    obtain ⟨i, hi, rfl, HP, HXR, HB⟩ := hrel
    by_cases hlt : i < S.L.length
    · have hsE : sureE S.dead S.L.length i 4096 = 0 := by rw [HDD.out]; unfold sureE; rw [if_neg (by decide), if_neg (by omega)]
      have HSE := Lib.hid hsE
      clear hsE
      go_wp2_with fail
      refine (x_size HXR.out).mono ?_
      rintro e w1 ⟨rfl, rfl⟩
      go_wp2_with fail
      refine (x_read i HXR.out).mono ?_
      rintro e w2 ⟨v2, rfl, ho, _, hb, hx⟩
      rw [HSE.out] at ho ⊢
      have hrp : (readP S i).size = 4096 := by obtain ⟨ov, h1, _⟩ := HXR.out; exact readP_size h1 i hlt
      obtain ⟨g2, c2, rfl, _⟩ := (ho rfl).byte hrp
      have HRP := Lib.hid hrp
      have HO2 := Lib.hid (ho rfl)
      have HX2 := Lib.hid hx
      have HB2 := Lib.hid hb
      have HP2 := Lib.hid (HP.out.below hb)
      obtain ⟨⟨vs, hrow, hel⟩, hszs⟩ := HP2.out
      have HROW := Lib.hid ((World.ownsRow_below hrow ((Below.refl w2.heap.size w2).alloc (Nat.le_refl _) (.cells #[.slice (some ⟨g2, 0, none⟩) 4096 c2] 27)) : (w2.alloc (.cells #[.slice (some ⟨g2, 0, none⟩) 4096 c2] 27)).ownsRow w.heap.size 27 1 u3 ((List.range i).map fun (k : Nat) => readP S k).length vs))
      have HEL := Lib.hid hel
      have HNW : Hid (∀ (j : Nat) u, [Value.slice (some ⟨g2, 0, none⟩) 4096 c2][j]? = some u → (w2.alloc (.cells #[.slice (some ⟨g2, 0, none⟩) 4096 c2] 27)).cell? ((⟨w2.heap.size, 0, none⟩ : Addr).add j) = some u) := Lib.hid (by
        intro j x hj
        rw [Go.WideShapes.add_plain, Nat.zero_add]
        cases j with
        | zero => simp at hj; subst hj; rw [blk_cell (blk_new _ _)]; rfl
        | succ j => simp at hj)
      have HOC : Hid (∀ u ∈ [Value.slice (some ⟨g2, 0, none⟩) 4096 c2], u.oneCell' = true) := Lib.hid (by intro x hx; rw [List.mem_singleton] at hx; rw [hx]; rfl)
      have hbs : w.heap.size ≤ w2.heap.size := Nat.le_trans HB.out.size hb.size
      have HBS := Lib.hid hbs
      clear ho hb hx hrow hel hrp hbs
      go_wp2_with (at_builtin; go_must (refine wpList_append_own_at (w2.alloc (.cells #[.slice (some ⟨g2, 0, none⟩) 4096 c2] 27)) rfl _ _ 54 rfl w.heap.size 27 i0 _ 1 24 uRow HI.out hz0 hz1 hz2 rfl (by decide) u3 _ vs rfl HROW.out ⟨w2.heap.size, 0, none⟩ 1 1 [.slice (some ⟨g2, 0, none⟩) 4096 c2] rfl rfl HNW.out HOC.out (by rw [List.length_map, List.length_range]; unfold maxLen; omega) (by rw [List.length_map, List.length_range]; omega) (by have := HBS.out; simp; omega) ?_); intro v3 w3 ho3 hg3 _ hat3; have HO3 := Lib.hid ho3; have HG3 := Lib.hid hg3; have HAT3 := Lib.hid hat3; clear ho3 hg3 hat3)
      have hkA : Keep (fun k => u3.ownBlock = some k) (w2.alloc (.cells #[.slice (some ⟨g2, 0, none⟩) 4096 c2] 27)) w3 := keep_grown HG3.out
      have hal : Below w2.heap.size w2 (w2.alloc (.cells #[.slice (some ⟨g2, 0, none⟩) 4096 c2] 27)) := (Below.refl _ _).alloc (Nat.le_refl _) _
      have hu3 : ∀ k, u3.ownBlock = some k → w.heap.size ≤ k ∧ ∃ cs, (w2.alloc (.cells #[.slice (some ⟨g2, 0, none⟩) 4096 c2] 27)).heap[k]? = some (.cells cs 27 (0, 0)) := fun k hk => by
        rcases HROW.out.2 with ⟨he, _⟩ | ⟨g, cap, cur, he, hbg, hg, _⟩
        · rw [he] at hk; cases hk
        · rw [he] at hk; cases hk; exact ⟨hbg, cur, hg⟩
      have hby : ∀ (x : Value) (B : Nat) (s : ByteArray), Own 5 w2 B x s → Own 5 w3 B x s := fun x B s hx => (hx.below hal).keep hkA (fun k hk e => by
        obtain ⟨_, cs, hcs⟩ := hu3 k e
        rcases (hx.below hal).2 with ⟨he, _⟩ | ⟨g, cap, cur, he, _, hg, _⟩
        · rw [he] at hk; cases hk
        · rw [he] at hk; cases hk; rw [hcs] at hg; simp only [Option.some.injEq, Obj.cells.injEq] at hg; exact absurd hg.2.1 (by decide))
      refine ⟨⟨i + 1, by omega, rfl, Lib.hid ?_, Lib.hid ?_, Lib.hid ?_⟩, by simp [intOf]; omega⟩
      · refine ⟨⟨vs ++ [.slice (some ⟨g2, 0, none⟩) 4096 c2], ?_, ?_⟩, ?_⟩
        · have h := HO3.out
          rw [List.length_map, List.length_range] at h
          rw [List.length_map, List.length_range]
          exact h
        · intro k s hs
          rw [List.range_succ, List.map_append, List.getElem?_append, List.length_map, List.length_range] at hs
          have hvl : vs.length = i := by have h := HROW.out.1; rw [List.length_map, List.length_range, Nat.mul_one] at h; exact h
          rw [List.getElem?_append, hvl]
          split at hs
          · rename_i hki
            rw [if_pos hki]
            obtain ⟨x, a, b⟩ := HEL.out k s hs
            exact ⟨x, a, hby _ _ _ b⟩
          · rename_i hki
            rw [if_neg hki]
            cases hk : k - i with
            | zero =>
              rw [hk] at hs
              simp only [List.map_cons, List.map_nil, List.getElem?_cons_zero, Option.some.injEq] at hs
              subst hs
              exact ⟨_, rfl, hby _ _ _ (HO2.out.lower HB.out.size)⟩
            | succ n => rw [hk] at hs; simp at hs
        · intro s hs
          rw [List.range_succ, List.map_append] at hs
          rcases List.mem_append.1 hs with h | h
          · exact HP.out.sz s h
          · simp at h; subst h; exact HRP.out
      · obtain ⟨ov, d1, d2, d3⟩ := HX2.out.below hal
        have hbl : bl < w.heap.size := by obtain ⟨ov0, c1, _⟩ := HX.out; exact c1.lt bl (.inr (.inl rfl))
        have hF : ∀ k, DF p bl bw ov k → ¬ u3.ownBlock = some k := fun k hk e => by
          obtain ⟨h1, cs, hcs⟩ := hu3 k e
          rcases hk with rfl | rfl | rfl | hk
          · rw [d1.blk] at hcs; simp only [Option.some.injEq, Obj.cells.injEq] at hcs; exact absurd hcs.2.1 (by decide)
          · omega
          · obtain ⟨vs', ⟨es, c', g1, _⟩, _⟩ := d1.waits; rw [g1] at hcs; simp at hcs
          · obtain ⟨c', g1⟩ := d1.order_blk hk; rw [g1] at hcs; simp only [Option.some.injEq, Obj.cells.injEq] at hcs; exact absurd hcs.2.1 (by decide)
        have hw0 : w0.heap.size ≤ w.heap.size := HX.out.low.size
        refine ⟨ov, d1.keep hkA hF (fun k c z hk e => ?_), d2.trans (hkA.below d2.size (fun k hk => by have := (hu3 k hk).1; omega)), d3⟩
        obtain ⟨_, cs, hcs⟩ := hu3 k e
        rw [hcs] at hk; simp only [Option.some.injEq, Obj.cells.injEq] at hk; exact absurd hk.2.1 (by decide)
      · have h1 : Below w.heap.size w (w2.alloc (.cells #[.slice (some ⟨g2, 0, none⟩) 4096 c2] 27)) := (HB.out.trans (HB2.out.mono HB.out.size)).trans (hal.mono HBS.out)
        exact h1.trans (hkA.below h1.size (fun k hk => (hu3 k hk).1))
    · obtain rfl : i = S.L.length := by omega
      go_wp2_with fail
      refine (x_size HXR.out).mono ?_
      rintro e w1 ⟨rfl, rfl⟩
      go_wp2_with fail
      go_ret
      exact ⟨_, rfl, HP.out, HXR.out, HB.out⟩
end
end Go.Proofs.Ytpclfnamknioaaa
