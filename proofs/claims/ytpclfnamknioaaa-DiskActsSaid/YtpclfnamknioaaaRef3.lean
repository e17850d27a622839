/- The document's disk (chapter 3): what it is in memory; the walks of its zeros, at, Read, counts, Fuse, Waits. -/
import Derived.Test.YtpclfnamknioaaaLawFates
import Derived.Deep.DeepCutAuto
namespace Go.Proofs.Ytpclfnamknioaaa
open Go.RowKit
set_option maxRecDepth 100000
set_option maxHeartbeats 1000000
set_option linter.unusedVariables false
set_option linter.unusedSimpArgs false
theorem rowk_keep {w w' : World} {F : Nat → Prop} {B : Nat} {e : TypeId} {n k : Nat} {v : Value} {xs : List Value} (h : Keep F w w') (hr : w.ownsRow B e k v n xs) (hA : ∀ i, v.ownBlock = some i → ¬ F i) : w'.ownsRow B e k v n xs := by
  refine ⟨hr.1, ?_⟩
  rcases hr.2 with hn | ⟨g, cap, cur, he, hb, hg, rest⟩
  · exact .inl hn
  · exact .inr ⟨g, cap, cur, he, hb, h.blk hg (hA g (by rw [he]; rfl)), rest⟩
theorem rowk_blk {w : World} {B : Nat} {e : TypeId} {n k : Nat} {v : Value} {xs : List Value} (hr : w.ownsRow B e k v n xs) {i : Nat} (hi : v.ownBlock = some i) : B ≤ i ∧ i < w.heap.size ∧ ∃ c, w.heap[i]? = some (.cells c e (0, 0)) := by
  rcases hr.2 with ⟨he, _⟩ | ⟨g, cap, cur, he, hb, hg, rest⟩
  · rw [he] at hi; cases hi
  · rw [he] at hi; cases hi; exact ⟨hb, blk_lt hg, cur, hg⟩
theorem rowk_shape {w : World} {B : Nat} {e : TypeId} {n k : Nat} {v : Value} {xs : List Value} (h : w.ownsRow B e k v n xs) : ∃ a cap, v = .slice a n cap := by
  rcases h.2 with ⟨he, h0⟩ | ⟨g, cap, cur, he, _⟩
  · exact ⟨none, 0, by rw [he, h0]⟩
  · exact ⟨_, _, he⟩
theorem rowk_cell {w : World} {B : Nat} {e : TypeId} {n k : Nat} {v : Value} {xs : List Value} (hr : w.ownsRow B e k v n xs) (hn : 0 < n) : ∃ g cap, v = .slice (some ⟨g, 0, none⟩) n cap ∧ ∀ (i : Nat) u, xs[i]? = some u → w.cell? ⟨g, i, none⟩ = some u := by
  rcases hr.2 with ⟨_, h0⟩ | ⟨g, cap, cur, he, hbg, hg, rest⟩
  · omega
  · refine ⟨g, cap, he, fun i u hu => ?_⟩
    have := hr.cells (g := g) (by rw [he]; rfl) i u hu
    rw [Go.WideShapes.add_plain, Nat.zero_add] at this
    exact this
structure R3 where
  L : List Pg
  N : List (Int × ByteArray)
  left : Int
  dead : Bool
def nCells (q : Int × ByteArray) : List Value := [.int .i64 q.1, .string q.2]
structure R3Is (w : World) (B p : Nat) (vL vN : Value) (R : R3) : Prop where
  blk : w.heap[p]? = some (.cells #[vL, vN, .int .i64 R.left, .bool R.dead] 50 (0, 0))
  rowL : w.ownsRow B 9 1 vL R.L.length (R.L.map fun o => .string (pgOf o))
  rowN : w.ownsRow B 73 2 vN R.N.length (R.N.flatMap nCells)
  low : B ≤ p
  lft : R.left ≤ 9223372036854775807
/-- its own blocks -/
def RF (p : Nat) (vL vN : Value) (i : Nat) : Prop := i = p ∨ vL.ownBlock = some i ∨ vN.ownBlock = some i
section
variable {w : World} {B p : Nat} {vL vN : Value} {R : R3}
theorem R3Is.own (h : R3Is w B p vL vN R) {i : Nat} (hi : RF p vL vN i) : B ≤ i ∧ i < w.heap.size ∧ ∃ c e, (e = 50 ∨ e = 9 ∨ e = 73) ∧ w.heap[i]? = some (.cells c e (0, 0)) := by
  rcases hi with rfl | hi | hi
  · exact ⟨h.low, blk_lt h.blk, _, _, .inl rfl, h.blk⟩
  · obtain ⟨a, b, c, hc⟩ := rowk_blk h.rowL hi; exact ⟨a, b, c, _, .inr (.inl rfl), hc⟩
  · obtain ⟨a, b, c, hc⟩ := rowk_blk h.rowN hi; exact ⟨a, b, c, _, .inr (.inr rfl), hc⟩
theorem R3Is.neL (h : R3Is w B p vL vN R) : vL.ownBlock ≠ some p := fun e => by
  obtain ⟨_, _, c, hc⟩ := rowk_blk h.rowL e
  rw [h.blk] at hc; simp only [Option.some.injEq, Obj.cells.injEq] at hc; exact absurd hc.2.1 (by decide)
theorem R3Is.neN (h : R3Is w B p vL vN R) : vN.ownBlock ≠ some p := fun e => by
  obtain ⟨_, _, c, hc⟩ := rowk_blk h.rowN e
  rw [h.blk] at hc; simp only [Option.some.injEq, Obj.cells.injEq] at hc; exact absurd hc.2.1 (by decide)
theorem R3Is.neLN (h : R3Is w B p vL vN R) {i : Nat} (hi : vL.ownBlock = some i) : vN.ownBlock ≠ some i := fun e => by
  obtain ⟨_, _, c, hc⟩ := rowk_blk h.rowN e
  obtain ⟨_, _, c', hc'⟩ := rowk_blk h.rowL hi
  rw [hc'] at hc; simp only [Option.some.injEq, Obj.cells.injEq] at hc; exact absurd hc.2.1 (by decide)
theorem R3Is.keep {F : Nat → Prop} {w' : World} (h : R3Is w B p vL vN R) (hk : Keep F w w') (hF : ∀ i, RF p vL vN i → ¬ F i) : R3Is w' B p vL vN R :=
  ⟨hk.blk h.blk (hF p (.inl rfl)), rowk_keep hk h.rowL (fun i hi => hF i (.inr (.inl hi))), rowk_keep hk h.rowN (fun i hi => hF i (.inr (.inr hi))), h.low, h.lft⟩
theorem R3Is.below {w' : World} (h : R3Is w B p vL vN R) (hb : Below w.heap.size w w') : R3Is w' B p vL vN R := h.keep (Keep.ofBelow hb (fun _ => False)) (fun _ _ h => h)
theorem R3Is.c0 (h : R3Is w B p vL vN R) : w.cell? ⟨p, 0, none⟩ = some vL := by rw [blk_cell h.blk]; rfl
theorem R3Is.c1 (h : R3Is w B p vL vN R) : w.cell? ⟨p, 1, none⟩ = some vN := by rw [blk_cell h.blk]; rfl
theorem R3Is.c2 (h : R3Is w B p vL vN R) : w.cell? ⟨p, 2, none⟩ = some (.int .i64 R.left) := by rw [blk_cell h.blk]; rfl
theorem R3Is.c3 (h : R3Is w B p vL vN R) : w.cell? ⟨p, 3, none⟩ = some (.bool R.dead) := by rw [blk_cell h.blk]; rfl
theorem R3Is.fz (h : R3Is w B p vL vN R) (i : Nat) : w.frozen? ⟨p, i, none⟩ = false := blk_frozen h.blk i
/-- left or dead anew -/
theorem R3Is.set (h : R3Is w B p vL vN R) (R' : R3) (hL : R'.L = R.L) (hN : R'.N = R.N) (hlf : R'.left ≤ 9223372036854775807) {w' : World} (hk : Keep (fun i => i = p) w w') (hb : w'.heap[p]? = some (.cells #[vL, vN, .int .i64 R'.left, .bool R'.dead] 50 (0, 0))) : R3Is w' B p vL vN R' :=
  ⟨hb, by rw [hL]; exact rowk_keep hk h.rowL (fun i hi e => h.neL (by rw [← e]; exact hi)), by rw [hN]; exact rowk_keep hk h.rowN (fun i hi e => h.neN (by rw [← e]; exact hi)), h.low, hlf⟩
/-! ### what waits, in order -/
def wOf (N : List (Int × ByteArray)) : Wt := N.foldl (fun W q => wput q.1 q.2 W) []
theorem wOf_snoc (N : List (Int × ByteArray)) (q : Int × ByteArray) : wOf (N ++ [q]) = wput q.1 q.2 (wOf N) := by unfold wOf; rw [List.foldl_append]; rfl
theorem wget_wput (j k : Int) (u : ByteArray) : ∀ W : Wt, wget j (wput k u W) = if j = k then some u else wget j W
  | [] => by
    by_cases h : j = k
    · subst h; simp [wput, wget]
    · simp [wput, wget, h]
  | q :: l => by
    have ih := wget_wput j k u l
    by_cases hq : k = q.1
    · subst hq
      simp only [wput, if_pos rfl, wget]
      by_cases h : j = q.1 <;> simp [h, wget]
    · simp only [wput, if_neg hq, wget]
      by_cases h : j = q.1
      · subst h; rw [if_pos rfl, if_pos rfl, if_neg (fun e => hq e.symm)]
      · rw [if_neg h, if_neg h]; exact ih
/-- the last of a key -/
theorem wget_last (k : Int) : ∀ (n : Nat) (N : List (Int × ByteArray)), N.length = n → ∀ (i : Nat) (u : ByteArray), N[i]? = some (k, u) → (∀ (j : Nat) q, i < j → N[j]? = some q → q.1 ≠ k) → wget k (wOf N) = some u
  | 0, N, hn, i, u, h, _ => by rw [List.eq_nil_of_length_eq_zero hn] at h; simp at h
  | n + 1, N, hn, i, u, h, hno => by
    obtain ⟨M, q, rfl⟩ : ∃ M q, N = M ++ [q] := by
      have hne : N ≠ [] := fun e => by rw [e] at hn; cases hn
      exact ⟨N.dropLast, N.getLast hne, (List.dropLast_concat_getLast hne).symm⟩
    have hM : M.length = n := by rw [List.length_append] at hn; simpa using hn
    rw [wOf_snoc, wget_wput]
    rcases Nat.lt_or_ge i M.length with hi | hi
    · have hq : q.1 ≠ k := hno M.length q hi (by simp)
      rw [if_neg (fun e => hq e.symm)]
      rw [List.getElem?_append_left hi] at h
      exact wget_last k n M hM i u h (fun j y hj hy => hno j y hj (by rw [List.getElem?_append_left (List.getElem?_eq_some_iff.1 hy).1]; exact hy))
    · have hi2 : i = M.length := by have := (List.getElem?_eq_some_iff.1 h).1; rw [List.length_append, List.length_singleton] at this; omega
      subst hi2
      simp at h
      rw [h, if_pos rfl]
theorem wget_never (k : Int) : ∀ (n : Nat) (N : List (Int × ByteArray)), N.length = n → (∀ (j : Nat) q, N[j]? = some q → q.1 ≠ k) → wget k (wOf N) = none
  | 0, N, hn, _ => by rw [List.eq_nil_of_length_eq_zero hn]; rfl
  | n + 1, N, hn, hno => by
    obtain ⟨M, q, rfl⟩ : ∃ M q, N = M ++ [q] := by
      have hne : N ≠ [] := fun e => by rw [e] at hn; cases hn
      exact ⟨N.dropLast, N.getLast hne, (List.dropLast_concat_getLast hne).symm⟩
    have hM : M.length = n := by rw [List.length_append] at hn; simpa using hn
    have hq : q.1 ≠ k := hno M.length q (by simp)
    rw [wOf_snoc, wget_wput, if_neg (fun e => hq e.symm)]
    exact wget_never k n M hM (fun j y hy => hno j y (by rw [List.getElem?_append_left (List.getElem?_eq_some_iff.1 hy).1]; exact hy))
theorem nflat_get : ∀ (l : List (Int × ByteArray)) (i : Nat) (q : Int × ByteArray), l[i]? = some q → (l.flatMap nCells)[i * 2]? = some (.int .i64 q.1) ∧ (l.flatMap nCells)[i * 2 + 1]? = some (.string q.2)
  | [], i, q, h => by simp at h
  | a :: l, 0, q, h => by
    simp only [List.getElem?_cons_zero, Option.some.injEq] at h
    subst h
    exact ⟨rfl, rfl⟩
  | a :: l, i + 1, q, h => by
    rw [List.getElem?_cons_succ] at h
    have ih := nflat_get l i q h
    rw [List.flatMap_cons, List.getElem?_append_right (by show 2 ≤ _; omega), List.getElem?_append_right (by show 2 ≤ _; omega)]
    rw [show (i + 1) * 2 - (nCells a).length = i * 2 by show (i + 1) * 2 - 2 = _; omega, show (i + 1) * 2 + 1 - (nCells a).length = i * 2 + 1 by show (i + 1) * 2 + 1 - 2 = _; omega]
    exact ih
def rV (p : Nat) : Value := .pointer (some ⟨p, 0, none⟩)
/-- a page as the document reads it -/
def readR (R : R3) (at_ : Nat) : ByteArray := (wget at_ (wOf R.N)).getD (pgOf (R.L.getD at_ none))
theorem rat_any (at_ : Nat) (hX : R3Is w B p vL vN R) (hl : R.N.length ≤ 1000) (hL : R.L.length ≤ 4096) (hat : at_ < R.L.length) :
    Calls Try.prog 45 #[rV p, .int .i64 at_] w fun e w' => e = .returned (.string (readR R at_)) ∧ w' = w := by
  obtain ⟨la, lc, rfl⟩ := rowk_shape hX.rowL
  obtain ⟨na, nc, rfl⟩ := rowk_shape hX.rowN
  have hc0 := hX.c0
  have hc1 := hX.c1
  have HX := Lib.hid hX
  obtain ⟨r, hr⟩ : ∃ r, r = readR R at_ := ⟨_, rfl⟩
  rw [← hr]
  have HR := Lib.hid hr
  unfold rV
  obtain ⟨n, hn⟩ : ∃ n, n = R.N.length := ⟨_, rfl⟩
  have HN := Lib.hid hn
  rw [← hn] at hl hc1 HX
  clear hX hr hn
  go_enter Try.func45, Try.ntmps45
  go_wp2_with fail
  go_loopw [5] (fun s wr => ∃ i : Nat, i ≤ n ∧ s = .int .i64 ((i : Int) - 1) ∧ Hid (∀ (j : Nat) q, i ≤ j → R.N[j]? = some q → q.1 ≠ (at_ : Int)) ∧ Hid (wr = w)) (fun s _ => (intOf s + 1).toNat)
  case atStart => exact ⟨n, by omega, rfl, Lib.hid (fun j q hj hq => by have := (List.getElem?_eq_some_iff.1 hq).1; have := HN.out; omega), Lib.hid rfl⟩
  case round =>
    obtain ⟨i, hi, rfl, HE, HW⟩ := hrel
    obtain rfl := HW.out.symm
    by_cases h0 : 0 < i
    · obtain ⟨k, rfl⟩ : ∃ k, i = k + 1 := ⟨i - 1, by omega⟩
      have e1 : (((k + 1 : Nat) : Int) - 1) = (k : Int) := by omega
      rw [e1]
      have i1 : decide ((k : Int) ≥ 0) = true := decide_eq_true (by omega)
      obtain ⟨q, hq⟩ : ∃ q, R.N[k]? = some q := ⟨_, List.getElem?_eq_getElem (by have := HN.out; omega)⟩
      obtain ⟨g, cap, he, hcell⟩ := rowk_cell HX.out.rowN (by have := HN.out; omega)
      rw [← HN.out] at he
      injection he with he _ hec
      subst he; subst hec
      have q1 := hcell _ _ (nflat_get R.N k q hq).1
      have q2 := hcell _ _ (nflat_get R.N k q hq).2
      obtain ⟨qk, qu⟩ := q
      simp only at q1 q2
      have HQ := Lib.hid hq
      clear hcell hq e1
      by_cases hk : qk = (at_ : Int)
      · have i2 : (qk == (at_ : Int)) = true := beq_iff_eq.2 hk
        have hr2 : r = qu := by
          rw [HR.out]
          unfold readR
          rw [wget_last at_ R.N.length R.N rfl k qu (by rw [HQ.out, hk]) (fun j y hj hy => HE.out j y (by omega) hy)]
          rfl
        subst hr2
        clear hk
        go_wp2_with fail
        go_ret
        exact ⟨rfl, rfl⟩
      · have i2 : (qk == (at_ : Int)) = false := beq_eq_false_iff_ne.2 hk
        have HNE := Lib.hid hk
        clear hk
        go_wp2_with fail
        refine ⟨⟨k, by omega, by go_num, Lib.hid (fun j y hj hy => ?_), Lib.hid (by trivial)⟩, by simp [intOf]; try omega⟩
        by_cases hjk : j = k
        · subst hjk; rw [HQ.out] at hy; cases hy; exact HNE.out
        · exact HE.out j y (by omega) hy
    · obtain rfl : i = 0 := by omega
      have i1 : decide (((0 : Nat) : Int) - 1 ≥ 0) = false := by decide
      obtain ⟨o, ho⟩ : ∃ o, R.L[at_]? = some o := ⟨_, List.getElem?_eq_getElem hat⟩
      obtain ⟨g, cap, he, hcell⟩ := rowk_cell HX.out.rowL (by omega)
      injection he with he _ hec
      subst he; subst hec
      have q1 := hcell at_ (.string (pgOf o)) (by rw [List.getElem?_map, ho]; rfl)
      have hr2 : r = pgOf o := by
        rw [HR.out]
        unfold readR
        rw [wget_never at_ R.N.length R.N rfl (fun j y hy => HE.out j y (by omega) hy), List.getD_eq_getElem?_getD, ho]
        rfl
      rw [← hr2] at q1
      have i3 : decide ((at_ : Int) < (R.L.length : Int)) = true := decide_eq_true (by omega)
      clear hcell ho hr2
      go_wp2_with fail
      go_ret
      exact ⟨rfl, rfl⟩
end
end Go.Proofs.Ytpclfnamknioaaa
