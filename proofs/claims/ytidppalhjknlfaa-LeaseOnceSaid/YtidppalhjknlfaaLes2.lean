/- lease.Get, lease.Held. -/
import Derived.Test.YtidppalhjknlfaaLes
namespace Go.Proofs.Ytidppalhjknlfaa
open Go.RowKit
set_option maxRecDepth 100000
set_option linter.unusedVariables false
set_option linter.unusedSimpArgs false
/-- where the first such one stands -/
def ixP {α : Type} (f : α → Bool) : List α → Option Nat
  | [] => none
  | k :: l => if f k = true then some 0 else (ixP f l).map (· + 1)
theorem ixP_some {α : Type} (f : α → Bool) : ∀ (l : List α) (i : Nat) (k : α), (∀ (j : Nat) y, j < i → l[j]? = some y → f y = false) → l[i]? = some k → f k = true → ixP f l = some i
  | [], i, k, _, h, _ => by simp at h
  | a :: l, 0, k, _, h, hk => by
    simp only [List.getElem?_cons_zero, Option.some.injEq] at h
    subst h
    unfold ixP; rw [if_pos hk]
  | a :: l, i + 1, k, hno, h, hk => by
    have h0 := hno 0 a (by omega) rfl
    unfold ixP
    rw [if_neg (by rw [h0]; decide), ixP_some f l i k (fun j y hj hy => hno (j + 1) y (by omega) (by rw [List.getElem?_cons_succ]; exact hy)) (by rw [List.getElem?_cons_succ] at h; exact h) hk]
    rfl
theorem ixP_none {α : Type} (f : α → Bool) : ∀ (l : List α), (∀ (j : Nat) y, l[j]? = some y → f y = false) → ixP f l = none
  | [], _ => rfl
  | a :: l, hno => by
    have h0 := hno 0 a rfl
    unfold ixP
    rw [if_neg (by rw [h0]; decide), ixP_none f l (fun j y hy => hno (j + 1) y (by rw [List.getElem?_cons_succ]; exact hy))]
    rfl
theorem ixP_find {α : Type} (f : α → Bool) : ∀ (l : List α), l.find? f = (ixP f l).bind (fun i => l[i]?)
  | [] => rfl
  | a :: l => by
    unfold ixP
    by_cases h : f a = true
    · rw [List.find?_cons_of_pos h, if_pos h]; rfl
    · rw [List.find?_cons_of_neg h, if_neg h, ixP_find f l]
      cases ixP f l <;> simp
theorem ixP_get {α : Type} (f : α → Bool) : ∀ (l : List α) (i : Nat), ixP f l = some i → ∃ k, l[i]? = some k ∧ f k = true
  | [], i, h => by simp [ixP] at h
  | a :: l, i, h => by
    unfold ixP at h
    by_cases ha : f a = true
    · rw [if_pos ha] at h
      injection h with h
      subst h
      exact ⟨a, rfl, ha⟩
    · rw [if_neg ha, Option.map_eq_some_iff] at h
      obtain ⟨j, hj, rfl⟩ := h
      obtain ⟨k, h1, h2⟩ := ixP_get f l j hj
      exact ⟨k, by rw [List.getElem?_cons_succ]; exact h1, h2⟩
def ixI (o : Option Nat) : Int := match o with | none => -1 | some i => i
theorem LR.shape {w : World} {v : Value} {L : List Ls} (h : LR w v L) : ∃ a cap, v = .slice a L.length cap ∧ L.length ≤ cap ∧ cap ≤ maxLen ∧ (a = none → cap = 0) := by
  obtain ⟨a, cap, rfl, h1, h2, h3, _⟩ := h
  exact ⟨a, cap, rfl, h1, h2, h3⟩
theorem LR.at_ {w : World} {v : Value} {L : List Ls} (h : LR w v L) {i : Nat} {l : Ls} (hl : L[i]? = some l) : ∃ g off cap, v = .slice (some ⟨g, off, none⟩) L.length cap ∧
    w.cell? ⟨g, off + i * 5, none⟩ = some (.int .u32 l.id) ∧ w.cell? ⟨g, off + i * 5 + 1, none⟩ = some (.int .i64 l.units) ∧ w.cell? ⟨g, off + i * 5 + 2, none⟩ = some (.int .i64 l.exp) ∧ w.cell? ⟨g, off + i * 5 + 3, none⟩ = some (.int .i64 l.day) ∧ w.cell? ⟨g, off + i * 5 + 4, none⟩ = some (.int .i64 l.month) := by
  obtain ⟨a, cap, rfl, h1, h2, h3, h4⟩ := h
  rcases h4 with h4 | ⟨g, off, rfl, h4⟩
  · rw [h4] at hl; simp at hl
  · exact ⟨g, off, cap, rfl, h4 i l hl 0 _ rfl, h4 i l hl 1 _ rfl, h4 i l hl 2 _ rfl, h4 i l hl 3 _ rfl, h4 i l hl 4 _ rfl⟩
theorem get_ix (q : Nat) (v : Value) (i : Int) (L : List Ls) (w : World) (hq : w.cell? ⟨q, 0, none⟩ = some (.int .u32 i)) (hv : LR w v L) (hl : L.length ≤ 1000000) :
    Calls Try.prog 29 #[v, .func (Fn.func 30) #[] #[.pointer (some ⟨q, 0, none⟩)]] w fun e w' => e = .returned (.int .i64 (ixI (ixP (fun l : Ls => decide (l.id = i)) L))) ∧ Below w.heap.size w w' := by
  obtain ⟨a, cap, rfl, h1, h2, h3⟩ := hv.shape
  have HV := Lib.hid hv
  have HQ := Lib.hid hq
  obtain ⟨N, hN⟩ : ∃ N, N = ixI (ixP (fun l : Ls => decide (l.id = i)) L) := ⟨_, rfl⟩
  rw [← hN]
  have HN := Lib.hid hN
  clear hv hq h3 hN
  go_enter Try.func29, Try.ntmps29
  go_wp2_with fail
  go_loopw [8] (fun s wr => ∃ j : Nat, j ≤ L.length ∧ s = .int .i64 j ∧ Hid (∀ (i' : Nat) y, i' < j → L[i']? = some y → decide (y.id = i) = false) ∧ Hid (Below w.heap.size w wr)) (fun s _ => L.length - (intOf s).toNat)
  case atStart => exact ⟨0, by omega, rfl, Lib.hid (by simp), Lib.hid (Below.refl _ _)⟩
  case round =>
    obtain ⟨j, hj, rfl, HA, HB⟩ := hrel
    by_cases hlt : j < L.length
    · obtain ⟨x, hx⟩ : ∃ x, L[j]? = some x := ⟨_, List.getElem?_eq_getElem hlt⟩
      obtain ⟨g, off, cap', he, c0, c1, c2, c3, c4⟩ := (HV.out.below HB.out).at_ hx
      injection he with he _ hcap
      subst he; subst hcap
      have hcon := id_c q i x wr ((Keep.ofBelow HB.out (fun _ => False)).cell HQ.out (fun h => h))
      have HX := Lib.hid hx
      clear hx
      have hxx : x = ⟨x.id, x.units, x.exp, x.day, x.month⟩ := rfl
      obtain ⟨id, un, ex, dy, mo⟩ := x
      unfold Ls.val at hcon
      dsimp only at c0 c1 c2 c3 c4 hcon
      by_cases hi : id = i
      · have HR := Lib.hid (ixP_some (fun l : Ls => decide (l.id = i)) L j ⟨id, un, ex, dy, mo⟩ (fun j' y a b => HA.out j' y a b) HX.out (decide_eq_true hi))
        rw [decide_eq_true hi] at hcon
        have hcon := Lib.hid hcon
        clear hi hxx
        go_wp2_with fail
        refine hcon.out.mono ?_
        rintro e w1 ⟨rfl, hb⟩
        have HB1 := Lib.hid (HB.out.trans (hb.mono HB.out.size))
        clear hb hcon
        go_wp2
        go_ret
        exact ⟨by rw [HN.out, HR.out]; rfl, HB1.out⟩
      · have HF := Lib.hid (decide_eq_false hi)
        rw [decide_eq_false hi] at hcon
        have hcon := Lib.hid hcon
        clear hi hxx
        go_wp2_with fail
        refine hcon.out.mono ?_
        rintro e w1 ⟨rfl, hb⟩
        have HB1 := Lib.hid (HB.out.trans (hb.mono HB.out.size))
        clear hb hcon
        go_wp2
        go_roundw
        case rel =>
          refine ⟨j + 1, by omega, by go_num, Lib.hid (fun j' y a b => ?_), HB1⟩
          by_cases hji : j' = j
          · subst hji; rw [HX.out] at b; cases b; exact HF.out
          · exact HA.out j' y (by omega) b
        case measure => simp [intOf]; omega
    · obtain rfl : j = L.length := by omega
      go_wp2
      go_ret
      refine ⟨?_, HB.out⟩
      rw [HN.out, ixP_none]
      · rfl
      · intro j' y hy
        exact HA.out j' y (List.getElem?_eq_some_iff.1 hy).1 hy
def Ls.zero : Ls := ⟨0, 0, 0, 0, 0⟩
def getV (o : Option Ls) : Ls := o.getD Ls.zero
def getE (o : Option Ls) : Int := if o.isSome = true then 0 else 44
theorem lget_any (p b1 b2 : Nat) (room : Int) (now was : AL) (t : Int) (ht : U32 t) (i : Int) (L : List Ls) (last m : Int) (w : World) (hM : MemIs w p room b1 b2 now was) (hSm : Small now) (hN : AL.ND now) (hL : LS now t L last) (hl : L.length ≤ 1000000) :
    Calls Try.prog 11 #[sV p, .int .u32 t, .int .u32 i, .int .i64 m] w fun e w' => e = .returned (.tuple #[(getV (getR L i m)).val, .int .i64 (getE (getR L i m))]) ∧ Below w.heap.size w w' := by
  have hb : Below w.heap.size w ((w.alloc (.cells #[.int .u32 i] 22)).alloc (.cells #[.int .u32 0, .int .i64 0, .int .i64 0, .int .i64 0, .int .i64 0] 31)) := ((Below.refl _ _).alloc (Nat.le_refl _) _).alloc (by simp) _
  have HT := Lib.hid (llive_any p b1 b2 room now was t ht L last m _ (hM.below hb) hSm hN hL hl)
  have hq0 := blk_alloc (blk_new w (.cells #[.int .u32 i] 22)) (.cells #[.int .u32 0, .int .i64 0, .int .i64 0, .int .i64 0, .int .i64 0] 31)
  have hz0 := blk_newAt (w := w.alloc (.cells #[.int .u32 i] 22)) (k := w.heap.size + 1) (by simp) (.cells #[.int .u32 0, .int .i64 0, .int .i64 0, .int .i64 0, .int .i64 0] 31)
  have HB := Lib.hid hb
  have HLL := Lib.hid (show (live m L).length ≤ 1000000 from Nat.le_trans (List.length_filter_le _ _) hl)
  have HG := Lib.hid (show getR L i m = (ixP (fun l : Ls => decide (l.id = i)) (live m L)).bind (fun j => (live m L)[j]?) from ixP_find _ _)
  have QZ := Lib.hid hq0
  have ZZ := Lib.hid hz0
  obtain ⟨R, hR⟩ : ∃ R, ixP (fun l : Ls => decide (l.id = i)) (live m L) = R := ⟨_, rfl⟩
  have HR := Lib.hid hR
  obtain ⟨A, hA⟩ : ∃ A, A = (getV (getR L i m)).val := ⟨_, rfl⟩
  obtain ⟨E, hE⟩ : ∃ E, E = getE (getR L i m) := ⟨_, rfl⟩
  rw [← hA, ← hE]
  have HA := Lib.hid hA
  have HE := Lib.hid hE
  unfold sV pV at *
  clear hM hb hq0 hz0 hR hA hE
  go_enter Try.func11, Try.ntmps11
  go_wp2_with fail
  refine HT.out.mono ?_
  rintro e w1 ⟨v, rfl, hr, hb⟩
  have HR1 := Lib.hid hr
  have HB1 := Lib.hid (HB.out.trans (hb.mono HB.out.size))
  have Q1 := Lib.hid ((Keep.ofBelow hb (fun _ => False)).blk QZ.out (fun h => h))
  have Z1 := Lib.hid ((Keep.ofBelow hb (fun _ => False)).blk ZZ.out (fun h => h))
  obtain ⟨va, vc, rfl, v1, v2, v3⟩ := hr.shape
  have HI := Lib.hid (get_ix w.heap.size _ i (live m L) w1 (by rw [blk_cell Q1.out]; rfl) HR1.out HLL.out)
  rw [HR.out] at HI
  clear hr hb QZ ZZ
  go_wp2_with fail
  refine HI.out.mono ?_
  rintro e w2 ⟨rfl, hb⟩
  have HR2 := Lib.hid (HR1.out.below hb)
  have HB2 := Lib.hid (HB1.out.trans (hb.mono HB1.out.size))
  have Z2 := Lib.hid ((Keep.ofBelow hb (fun _ => False)).blk Z1.out (fun h => h))
  clear hb HR1 HB1 Q1 Z1 HI
  have z0 : w2.cell? ⟨w.heap.size + 1, 0, none⟩ = some (.int .u32 0) := by rw [blk_cell Z2.out]; rfl
  have z1 : w2.cell? ⟨w.heap.size + 1, 1, none⟩ = some (.int .i64 0) := by rw [blk_cell Z2.out]; rfl
  have z2 : w2.cell? ⟨w.heap.size + 1, 2, none⟩ = some (.int .i64 0) := by rw [blk_cell Z2.out]; rfl
  have z3 : w2.cell? ⟨w.heap.size + 1, 3, none⟩ = some (.int .i64 0) := by rw [blk_cell Z2.out]; rfl
  have z4 : w2.cell? ⟨w.heap.size + 1, 4, none⟩ = some (.int .i64 0) := by rw [blk_cell Z2.out]; rfl
  have f0 := blk_frozen Z2.out 0
  have f1 := blk_frozen Z2.out 1
  have f2 := blk_frozen Z2.out 2
  have f3 := blk_frozen Z2.out 3
  have f4 := blk_frozen Z2.out 4
  have HST := Lib.hid fun (a b c d e : Value) => ((((((Keep.refl (fun k => k = w.heap.size + 1) w2).setCell (p := ⟨w.heap.size + 1, 0, none⟩) (.inl rfl) a).setCell (p := ⟨w.heap.size + 1, 1, none⟩) (.inl rfl) b).setCell (p := ⟨w.heap.size + 1, 2, none⟩) (.inl rfl) c).setCell (p := ⟨w.heap.size + 1, 3, none⟩) (.inl rfl) d).setCell (p := ⟨w.heap.size + 1, 4, none⟩) (.inl rfl) e)
  have HCE := Lib.hid fun (a b c d e : Value) => (blk_setCell (blk_setCell (blk_setCell (blk_setCell (blk_setCell Z2.out 0 a) 1 b) 2 c) 3 d) 4 e)
  cases R with
  | none =>
    have hG : getR L i m = none := by rw [HG.out, HR.out]; rfl
    have hA2 := HA.out
    rw [hG] at hA2
    have hE2 := HE.out
    rw [hG] at hE2
    subst hA2
    subst hE2
    have hx : ixI none = -1 := rfl
    rw [hx]
    clear hG hx HA HE HG HR
    go_wp2_with fail
    have hc := HCE.out (.int .u32 0) (.int .i64 0) (.int .i64 0) (.int .i64 0) (.int .i64 0)
    have hk := HST.out (.int .u32 0) (.int .i64 0) (.int .i64 0) (.int .i64 0) (.int .i64 0)
    have x0 := blk_cell hc 0
    have x1 := blk_cell hc 1
    have x2 := blk_cell hc 2
    have x3 := blk_cell hc 3
    have x4 := blk_cell hc 4
    have hb9 := HB2.out.trans (hk.below (B := w.heap.size) HB2.out.size (fun i hi => by omega))
    clear hc hk HCE HST
    refine bodyPost_ret (by simp [results, Try.results11, go_sem, x0, x1, x2, x3, x4]; rfl) rfl ?_
    exact ⟨rfl, hb9⟩
  | some j =>
    obtain ⟨x, hx1, hx2⟩ := ixP_get _ _ _ HR.out
    have hG : getR L i m = some x := by rw [HG.out, HR.out]; exact hx1
    have hA2 := HA.out
    rw [hG] at hA2
    have hE2 := HE.out
    rw [hG] at hE2
    subst hA2
    subst hE2
    have hj := (List.getElem?_eq_some_iff.1 hx1).1
    obtain ⟨g, off, cap', he, c0, c1, c2, c3, c4⟩ := HR2.out.at_ hx1
    injection he with he _ hcap
    subst he; subst hcap
    have hx : ixI (some j) = j := rfl
    rw [hx]
    have hj2 : ¬ ((j : Int) < 0) := by omega
    clear hG hx HA HE HG HR hx1 hx2
    go_wp2_with fail
    have hc := HCE.out (.int .u32 x.id) (.int .i64 x.units) (.int .i64 x.exp) (.int .i64 x.day) (.int .i64 x.month)
    have hk := HST.out (.int .u32 x.id) (.int .i64 x.units) (.int .i64 x.exp) (.int .i64 x.day) (.int .i64 x.month)
    have x0 := blk_cell hc 0
    have x1 := blk_cell hc 1
    have x2 := blk_cell hc 2
    have x3 := blk_cell hc 3
    have x4 := blk_cell hc 4
    have hb9 := HB2.out.trans (hk.below (B := w.heap.size) HB2.out.size (fun i hi => by omega))
    clear hc hk HCE HST
    refine bodyPost_ret (by simp [results, Try.results11, go_sem, x0, x1, x2, x3, x4]; rfl) rfl ?_
    exact ⟨rfl, hb9⟩
theorem heldD_snoc (L : List Ls) (x : Ls) (d : Int) : heldD (L ++ [x]) d = if x.day = d then wrap64 (heldD L d + x.units) else heldD L d := by simp [heldD]
theorem heldM_snoc (L : List Ls) (x : Ls) (d : Int) : heldM (L ++ [x]) d = if x.month = d then wrap64 (heldM L d + x.units) else heldM L d := by simp [heldM]
theorem lheld_any (v : Value) (L : List Ls) (d m : Int) (w : World) (hv : LR w v L) (hl : L.length ≤ 1000000) :
    Calls Try.prog 17 #[v, .int .i64 d, .int .i64 m] w fun e w' => e = .returned (.tuple #[.int .i64 (heldD L d), .int .i64 (heldM L m)]) ∧ Below w.heap.size w w' := by
  obtain ⟨a, cap, rfl, h1, h2, h3⟩ := hv.shape
  have HV := Lib.hid hv
  obtain ⟨D, hD⟩ : ∃ D, D = heldD L d := ⟨_, rfl⟩
  obtain ⟨M, hM⟩ : ∃ M, M = heldM L m := ⟨_, rfl⟩
  rw [← hD, ← hM]
  have HD := Lib.hid hD
  have HM := Lib.hid hM
  clear hv h3 hD hM
  go_enter Try.func17, Try.ntmps17
  go_wp2_with fail
  go_loopw [6, 7, 12] (fun x y s wr => ∃ j : Nat, j ≤ L.length ∧ s = .int .i64 j ∧ x = .int .i64 (heldD (L.take j) d) ∧ y = .int .i64 (heldM (L.take j) m) ∧ Hid (Below w.heap.size w wr)) (fun _ _ s _ => L.length - (intOf s).toNat)
  case atStart => exact ⟨0, by omega, rfl, rfl, rfl, Lib.hid (Below.refl _ _)⟩
  case round =>
    obtain ⟨j, hj, rfl, rfl, rfl, HB⟩ := hrel
    by_cases hlt : j < L.length
    · obtain ⟨x, hx⟩ : ∃ x, L[j]? = some x := ⟨_, List.getElem?_eq_getElem hlt⟩
      obtain ⟨g, off, cap', he, c0, c1, c2, c3, c4⟩ := (HV.out.below HB.out).at_ hx
      injection he with he _ hcap
      subst he; subst hcap
      have htk : L.take (j + 1) = L.take j ++ [x] := by rw [List.take_add_one, hx]; rfl
      have ED := heldD_snoc (L.take j) x d
      have EM := heldM_snoc (L.take j) x m
      rw [← htk] at ED EM
      have ED := Lib.hid ED
      have EM := Lib.hid EM
      clear hx htk
      obtain ⟨X, hX⟩ : ∃ X, X = heldD (L.take j) d := ⟨_, rfl⟩
      obtain ⟨Y, hY⟩ : ∃ Y, Y = heldM (L.take j) m := ⟨_, rfl⟩
      rw [← hX] at ED ⊢
      rw [← hY] at EM ⊢
      clear hX hY
      by_cases i1 : x.day = d <;> by_cases i2 : x.month = m
      all_goals
        go_wp2_with fail
        refine ⟨⟨j + 1, by omega, by go_num, ?_, ?_, Lib.hid (HB.out.alloc HB.out.size _)⟩, by simp [intOf]; omega⟩
        · rw [ED.out]; first | rw [if_pos i1] | rw [if_neg i1]
        · rw [EM.out]; first | rw [if_pos i2] | rw [if_neg i2]
    · obtain rfl : j = L.length := by omega
      rw [List.take_length]
      rw [← HD.out, ← HM.out]
      go_wp2
      go_ret2
      exact ⟨rfl, HB.out⟩
end Go.Proofs.Ytidppalhjknlfaa
