/- The walk of LeaseHeld. -/
import Derived.Test.YtidppalhjknlfaaGoes20
import Derived.Test.YtidppalhjknlfaaActs20
namespace Go.Proofs.Ytidppalhjknlfaa
open Go.RowKit
set_option maxRecDepth 100000
set_option linter.unusedVariables false
set_option linter.unusedSimpArgs false
set_option maxHeartbeats 4000000
theorem and_rng (x : Int) (m : Nat) (hm : m < 9223372036854775808) : 0 ≤ bits BinOp.and IntKind.i64 x (m : Int) ∧ bits BinOp.and IntKind.i64 x (m : Int) ≤ m := by
  have h2 : (BitVec.ofInt 64 (m : Int)).toNat = m := by
    rw [BitVec.ofInt_natCast, BitVec.toNat_ofNat]; exact Nat.mod_eq_of_lt (by omega)
  have h3 : (BitVec.ofInt 64 x).toNat &&& m ≤ m := Nat.and_le_right
  show 0 ≤ IntKind.i64.wrap ((BitVec.ofInt 64 x &&& BitVec.ofInt 64 (m : Int)).toNat : Int) ∧ IntKind.i64.wrap ((BitVec.ofInt 64 x &&& BitVec.ofInt 64 (m : Int)).toNat : Int) ≤ m
  rw [BitVec.toNat_and, h2]
  generalize (BitVec.ofInt 64 x).toNat &&& m = k at *
  have : IntKind.i64.wrap (k : Int) = k := by
    rw [IntKind.wrap_i64]; omega
  rw [this]
  omega
def hT (l : Ls) : Ls := ⟨l.id, bits BinOp.and IntKind.i64 l.units 1099511627775, l.exp, (bits BinOp.and IntKind.i64 l.day 7).tmod 7, (bits BinOp.and IntKind.i64 l.month 7).tmod 7⟩
theorem hT_rng (l : Ls) : (0 ≤ (hT l).units ∧ (hT l).units ≤ 1099511627775) ∧ (0 ≤ (hT l).day ∧ (hT l).day < 7) ∧ (0 ≤ (hT l).month ∧ (hT l).month < 7) := by
  have a := and_rng l.units 1099511627775 (by decide)
  have b := and_rng l.day 7 (by decide)
  have c := and_rng l.month 7 (by decide)
  refine ⟨a, ?_, ?_⟩
  · show 0 ≤ (bits BinOp.and IntKind.i64 l.day 7).tmod 7 ∧ (bits BinOp.and IntKind.i64 l.day 7).tmod 7 < 7
    have b1 : 0 ≤ bits BinOp.and IntKind.i64 l.day 7 := b.1
    rw [Int.tmod_eq_emod_of_nonneg b1]; omega
  · show 0 ≤ (bits BinOp.and IntKind.i64 l.month 7).tmod 7 ∧ (bits BinOp.and IntKind.i64 l.month 7).tmod 7 < 7
    have b1 : 0 ≤ bits BinOp.and IntKind.i64 l.month 7 := c.1
    rw [Int.tmod_eq_emod_of_nonneg b1]; omega
def sumF (f : Ls → Int) : List Ls → Int
  | [] => 0
  | x :: X => f x + sumF f X
theorem sumF_snoc (f : Ls → Int) (x : Ls) : ∀ X, sumF f (X ++ [x]) = sumF f X + f x
  | [] => by simp [sumF]
  | y :: X => by simp only [List.cons_append, sumF, sumF_snoc f x X]; omega
theorem sumF_rng (f : Ls → Int) (B : Int) : ∀ X, (∀ x ∈ X, 0 ≤ f x ∧ f x ≤ B) → 0 ≤ sumF f X ∧ sumF f X ≤ X.length * B
  | [], _ => by simp [sumF]
  | x :: X, h => by
    have h1 := h x List.mem_cons_self
    have h2 := sumF_rng f B X (fun y hy => h y (List.mem_cons_of_mem _ hy))
    have e : ((X.length + 1 : Nat) : Int) * B = X.length * B + B := by rw [Int.natCast_add, Int.add_mul]; simp
    simp only [sumF, List.length_cons]
    rw [e]; omega
theorem sumF_add (f g h : Ls → Int) : ∀ X, (∀ x ∈ X, f x + g x = h x) → sumF f X + sumF g X = sumF h X
  | [], _ => by simp [sumF]
  | x :: X, e => by
    have h1 := e x List.mem_cons_self
    have h2 := sumF_add f g h X (fun y hy => e y (List.mem_cons_of_mem _ hy))
    simp only [sumF]; omega
theorem sumF_congr (f g : Ls → Int) : ∀ X, (∀ x ∈ X, f x = g x) → sumF f X = sumF g X
  | [], _ => rfl
  | x :: X, e => by
    have h1 := e x List.mem_cons_self
    have h2 := sumF_congr f g X (fun y hy => e y (List.mem_cons_of_mem _ hy))
    simp only [sumF]; omega
theorem sumF_zero (f : Ls → Int) : ∀ X, (∀ x ∈ X, f x = 0) → sumF f X = 0
  | [], _ => rfl
  | x :: X, e => by
    have h1 := e x List.mem_cons_self
    have h2 := sumF_zero f X (fun y hy => e y (List.mem_cons_of_mem _ hy))
    simp only [sumF]; omega
/-- units are few -/
def Few (X : List Ls) : Prop := X.length ≤ 30 ∧ ∀ x ∈ X, (0 ≤ x.units ∧ x.units ≤ 1099511627775) ∧ (0 ≤ x.day ∧ x.day < 7) ∧ (0 ≤ x.month ∧ x.month < 7)
theorem held_sum (f : Ls → Int) (d : Int) : ∀ (X : List Ls) (s : Int), (∀ x ∈ X, 0 ≤ x.units ∧ x.units ≤ 1099511627775) → 0 ≤ s → s + X.length * 1099511627775 ≤ 4611686018427387904 →
    X.foldl (fun s l => if f l = d then wrap64 (s + l.units) else s) s = s + sumF (fun l => if f l = d then l.units else 0) X
  | [], s, _, _, _ => by simp [sumF]
  | x :: X, s, h, h0, h1 => by
    have hx := h x List.mem_cons_self
    have e : ((X.length + 1 : Nat) : Int) * 1099511627775 = X.length * 1099511627775 + 1099511627775 := by rw [Int.natCast_add, Int.add_mul]; simp
    rw [List.length_cons, e] at h1
    have hl : (0 : Int) ≤ X.length * 1099511627775 := by omega
    by_cases hd : f x = d
    · have hw : wrap64 (s + x.units) = s + x.units := by unfold wrap64; omega
      have ih := held_sum f d X (s + x.units) (fun y hy => h y (List.mem_cons_of_mem _ hy)) (by omega) (by omega)
      simp only [List.foldl_cons, sumF, if_pos hd, hw, ih]; omega
    · have ih := held_sum f d X s (fun y hy => h y (List.mem_cons_of_mem _ hy)) (by omega) (by omega)
      simp only [List.foldl_cons, sumF, if_neg hd, ih]; omega
theorem heldD_sum {X : List Ls} (h : Few X) (d : Int) : heldD X d = sumF (fun l => if l.day = d then l.units else 0) X := by
  have := held_sum (fun l => l.day) d X 0 (fun x hx => (h.2 x hx).1) (by decide) (by have := h.1; omega)
  rw [Int.zero_add] at this
  exact this
theorem heldM_sum {X : List Ls} (h : Few X) (d : Int) : heldM X d = sumF (fun l => if l.month = d then l.units else 0) X := by
  have := held_sum (fun l => l.month) d X 0 (fun x hx => (h.2 x hx).1) (by decide) (by have := h.1; omega)
  rw [Int.zero_add] at this
  exact this
/-- units of the first days -/
def dsum (f : Ls → Int) (k : Int) (X : List Ls) : Int := sumF (fun l => if f l < k then l.units else 0) X
theorem dsum_rng {X : List Ls} (h : Few X) (f : Ls → Int) (k : Int) : 0 ≤ dsum f k X ∧ dsum f k X ≤ 32985348833250 := by
  have := sumF_rng (fun l => if f l < k then l.units else 0) 1099511627775 X (fun x hx => by
    have := (h.2 x hx).1
    split <;> omega)
  have := h.1
  unfold dsum; omega
theorem dsum_succ (f : Ls → Int) (k : Int) (X : List Ls) : dsum f k X + sumF (fun l => if f l = k then l.units else 0) X = dsum f (k + 1) X := by
  unfold dsum
  refine sumF_add _ _ _ X (fun x _ => ?_)
  by_cases h1 : f x < k
  · rw [if_pos h1, if_neg (by omega), if_pos (by omega)]; omega
  · by_cases h2 : f x = k
    · rw [if_neg h1, if_pos h2, if_pos (by omega)]; omega
    · rw [if_neg h1, if_neg h2, if_neg (by omega)]; omega
theorem dsum_zero {X : List Ls} (f : Ls → Int) (h : ∀ x ∈ X, 0 ≤ f x) : dsum f 0 X = 0 := sumF_zero _ X (fun x hx => by rw [if_neg (by have := h x hx; omega)])
theorem dsum_all {X : List Ls} (f : Ls → Int) (h : ∀ x ∈ X, f x < 7) : dsum f 7 X = sumF (fun l => l.units) X := sumF_congr _ _ X (fun x hx => by rw [if_pos (h x hx)])
theorem few_map {L : List Ls} (h : L.length ≤ 30) : Few (L.map hT) := ⟨by rw [List.length_map]; exact h, fun x hx => by obtain ⟨l, _, rfl⟩ := List.mem_map.1 hx; exact hT_rng l⟩
theorem cells5_set (X : List Ls) (j : Nat) (x x' : Ls) (k : Nat) (u : Value) (hx : X[j]? = some x) (hk : k < 5) (hc : c5 x' = (c5 x).set k u) : (cells5 X).set (j * 5 + k) u = cells5 (X.set j x') := by
  induction X generalizing j with
  | nil => simp at hx
  | cons y X ih =>
    cases j with
    | zero =>
      simp at hx; subst hx
      show (c5 y ++ cells5 X).set (0 * 5 + k) u = c5 x' ++ cells5 X
      rw [List.set_append_left _ _ (by rw [c5_len]; omega), hc]; congr 2; omega
    | succ j =>
      show (c5 y ++ cells5 X).set ((j + 1) * 5 + k) u = c5 y ++ cells5 (X.set j x')
      rw [List.set_append_right _ _ (by rw [c5_len]; omega), c5_len, ← ih j (by simpa using hx)]
      congr 2; omega
theorem row_set {w : World} {B g cap n size : Nat} {e : TypeId} {xs : List Value} (h : w.ownsRow B e size (.slice (some ⟨g, 0, none⟩) n cap) n xs) (i : Nat) (hi : i < xs.length) (u : Value) : (w.setCell ⟨g, i, none⟩ u).ownsRow B e size (.slice (some ⟨g, 0, none⟩) n cap) n (xs.set i u) := by
  refine ⟨by rw [List.length_set]; exact h.1, ?_⟩
  rcases h.2 with ⟨he, _⟩ | ⟨g', cap', cur, he, hb, hg, hn, hm, hs, ht⟩
  · cases he
  · injection he with e1 _ e3
    injection e1 with e1
    injection e1 with e1
    subst e1; subst e3
    refine .inr ⟨_, _, cur.setIfInBounds i u, rfl, hb, blk_setCell hg i u, hn, hm, by rw [Array.size_setIfInBounds]; exact hs, ?_⟩
    rw [Array.toList_setIfInBounds, List.take_set, ht]
theorem lheldl_any (lv : Value) (L : List Ls) (w : World) (hL : LR w lv L) (hok : ∀ l ∈ L, l.Ok) :
    Calls Try.prog 5 #[lv] w fun e w' => e = .returned (.bool true) ∧ Below w.heap.size w w' := by
  obtain ⟨la, lc, rfl, q1, q2, q3⟩ := hL.shape
  have HG := Lib.hid goes20
  have HL := Lib.hid hL
  have HOK := Lib.hid hok
  clear hL q3 hok
  by_cases hll : 30 < L.length
  · have i0 : (30 : Int) < (L.length : Int) := by omega
    clear hll
    go_enter Try.func5, Try.ntmps5
    go_wp2_with fail
    go_ret
    exact ⟨rfl, Below.refl _ _⟩
  · have i0 : ¬ (30 : Int) < (L.length : Int) := by omega
    have hle : L.length ≤ 30 := by omega
    have hb0 : Below w.heap.size w (w.alloc (.cells #[] 31)) := (Below.refl _ _).alloc (Nat.le_refl _) _
    have HL1 := Lib.hid (HL.out.below hb0)
    go_enter Try.func5, Try.ntmps5
    have HO0 := Lib.hid (show (w.alloc (.cells #[] 31)).ownsRow w.heap.size 31 5 (.slice (some ⟨w.heap.size, 0, none⟩) 0 0) ([] : List Ls).length (cells5 []) from
      ⟨rfl, .inr ⟨w.heap.size, 0, #[], rfl, Nat.le_refl _, blk_new w _, Nat.le_refl _, by decide, rfl, rfl⟩⟩)
    have HB0 := Lib.hid hb0
    clear hb0 hll
    go_upto_region 4 with (at_builtin; go_must (
      refine wp_app_l w.heap.size rfl _ _ rfl _ _ [] L rfl rfl HO0.out HL1.out HB0.out.size (by simp) (by omega) ?_
      rw [List.nil_append]
      intro v1 w1 ho hk hat
      obtain ⟨a1, c1, rfl⟩ : ∃ a c, v1 = .slice a L.length c := by
        rcases ho.2 with ⟨he, h0⟩ | ⟨g, cap, cur, he, _⟩
        · exact ⟨none, 0, by rw [he, h0]⟩
        · exact ⟨_, _, he⟩
      have hb1 := HB0.out.trans (hk.below (B := w.heap.size) HB0.out.size (fun k hk => by cases hk; exact Nat.le_refl _))
      have HO1 := Lib.hid ho
      have HB1 := Lib.hid hb1
      clear ho hk hat hb1))
    go_wp2_with fail
    go_loopw [6, 7] (fun s i wr => ∃ j : Nat, j ≤ L.length ∧ i = .int .i64 j ∧ s = .int .i64 (sumF (fun l => l.units) ((L.take j).map hT)) ∧ Hid (wr.ownsRow w.heap.size 31 5 (.slice a1 L.length c1) L.length (cells5 ((L.take j).map hT ++ L.drop j))) ∧ Hid (Below w.heap.size w wr)) (fun _ i _ => L.length - (intOf i).toNat)
    case atStart => exact ⟨0, by omega, rfl, rfl, HO1, HB1⟩
    case round =>
      clear HO1 HB1
      obtain ⟨j, hj, rfl, rfl, HO, HB⟩ := hrel
      by_cases hlt : j < L.length
      · obtain ⟨x, hx⟩ : ∃ x, L[j]? = some x := ⟨_, List.getElem?_eq_getElem hlt⟩
        obtain ⟨X, hX⟩ : ∃ X, X = (L.take j).map hT ++ L.drop j := ⟨_, rfl⟩
        have hXl : X.length = L.length := by rw [hX, List.length_append, List.length_map, List.length_take, List.length_drop]; omega
        have hXx : X[j]? = some x := by
          rw [hX, List.getElem?_append_right (by rw [List.length_map, List.length_take]; omega), List.length_map, List.length_take, List.getElem?_drop, ← hx]; congr 1; omega
        have htk : L.take (j + 1) = L.take j ++ [x] := by rw [List.take_add_one, hx]; rfl
        have hXs : X.set j (hT x) = (L.take (j + 1)).map hT ++ L.drop (j + 1) := by
          rw [hX, List.set_append_right _ _ (by rw [List.length_map, List.length_take]; omega), List.length_map, List.length_take, show j - min j L.length = 0 by omega, htk, List.map_append, List.append_assoc]
          congr 1
          rw [List.drop_eq_getElem_cons hlt]
          rfl
        rw [← hX] at HO
        have HXS := Lib.hid hXs
        have HXX := Lib.hid hXx
        have hss := sumF_snoc (fun l => l.units) (hT x) ((L.take j).map hT)
        have hsr := sumF_rng (fun l => l.units) 1099511627775 ((L.take j).map hT) (fun y hy => by obtain ⟨l, _, rfl⟩ := List.mem_map.1 hy; exact (hT_rng l).1)
        have hsl : (((L.take j).map hT).length : Int) ≤ 30 := by rw [List.length_map, List.length_take]; omega
        rw [show (L.take j).map hT ++ [hT x] = (L.take (j + 1)).map hT by rw [htk, List.map_append]; rfl] at hss
        have hux := (hT_rng x).1
        obtain ⟨S, hS⟩ : ∃ S, S = sumF (fun l => l.units) ((L.take j).map hT) := ⟨_, rfl⟩
        rw [← hS] at hss hsr ⊢
        have hS1 : S ≤ 32985348833250 := by omega
        have hwr : wrap64 (S + bits BinOp.and IntKind.i64 x.units 1099511627775) = S + bits BinOp.and IntKind.i64 x.units 1099511627775 := by
          have h1 : 0 ≤ bits BinOp.and IntKind.i64 x.units 1099511627775 := hux.1
          have h2 : bits BinOp.and IntKind.i64 x.units 1099511627775 ≤ 1099511627775 := hux.2
          unfold wrap64; omega
        have HSS := Lib.hid hss
        have HWR := Lib.hid hwr
        rcases HO.out.2 with ⟨he, h0⟩ | ⟨g, cap, cur, he, hb', hg, hn, hm, hr⟩
        · omega
        · injection he with he _ hcap
          subst he; subst hcap
          have f3 := blk_frozen hg (j * 5 + 3)
          have f4 := blk_frozen hg (j * 5 + 4)
          have f1 := blk_frozen hg (j * 5 + 1)
          obtain ⟨g', off, cap', he, c0, c1, c2, c3, c4⟩ := (LR.of_row (L := X) (by rw [hXl]; exact HO.out)).at_ hXx
          injection he with he _ _
          injection he with he
          injection he with e1 e2 _
          subst e1; subst e2
          simp only [Nat.zero_add] at c0 c1 c2 c3 c4
          have hgl : w.heap.size ≤ g := hb'
          clear hg hr hX hXl hXx htk hXs hss hsr hsl hux hS hx hwr
          go_wp2_with fail
          refine ⟨⟨j + 1, by omega, by go_num, by rw [HSS.out, HWR.out]; rfl, ?_, Lib.hid (((HB.out.setCell (p := ⟨g, j * 5 + 3, none⟩) hgl _).setCell (p := ⟨g, j * 5 + 4, none⟩) hgl _).setCell (p := ⟨g, j * 5 + 1, none⟩) hgl _)⟩, by simp [intOf]; omega⟩
          have hXL : (cells5 X).length = L.length * 5 := HO.out.1
          have s1 := row_set HO.out (j * 5 + 3) (by omega) (.int .i64 ((bits BinOp.and IntKind.i64 x.day 7).tmod 7))
          have s2 := row_set s1 (j * 5 + 4) (by rw [List.length_set]; omega) (.int .i64 ((bits BinOp.and IntKind.i64 x.month 7).tmod 7))
          have s3 := row_set s2 (j * 5 + 1) (by rw [List.length_set, List.length_set]; omega) (.int .i64 (bits BinOp.and IntKind.i64 x.units 1099511627775))
          have hjX : j < X.length := (List.getElem?_eq_some_iff.1 HXX.out).1
          obtain ⟨x1, hx1⟩ : ∃ x1 : Ls, x1 = ⟨x.id, x.units, x.exp, (bits BinOp.and IntKind.i64 x.day 7).tmod 7, x.month⟩ := ⟨_, rfl⟩
          obtain ⟨x2, hx2⟩ : ∃ x2 : Ls, x2 = ⟨x.id, x.units, x.exp, (bits BinOp.and IntKind.i64 x.day 7).tmod 7, (bits BinOp.and IntKind.i64 x.month 7).tmod 7⟩ := ⟨_, rfl⟩
          have t1 := cells5_set X j x x1 3 (.int .i64 ((bits BinOp.and IntKind.i64 x.day 7).tmod 7)) HXX.out (by decide) (by rw [hx1]; rfl)
          have t2 := cells5_set (X.set j x1) j x1 x2 4 (.int .i64 ((bits BinOp.and IntKind.i64 x.month 7).tmod 7)) (List.getElem?_set_self hjX) (by decide) (by rw [hx1, hx2]; rfl)
          have t3 := cells5_set ((X.set j x1).set j x2) j x2 (hT x) 1 (.int .i64 (bits BinOp.and IntKind.i64 x.units 1099511627775)) (List.getElem?_set_self (by rw [List.length_set]; exact hjX)) (by decide) (by rw [hx2]; rfl)
          rw [t1, t2, t3, List.set_set, List.set_set, HXS.out] at s3
          exact Lib.hid s3
      · obtain rfl : j = L.length := by omega
        rw [List.take_length] at HO ⊢
        rw [List.drop_length, List.append_nil] at HO
        obtain ⟨X, hX⟩ : ∃ X, X = L.map hT := ⟨_, rfl⟩
        have hXl : X.length = L.length := by rw [hX, List.length_map]
        have hF : Few X := by rw [hX]; exact few_map hle
        rw [← hX] at HO ⊢
        have HXL := Lib.hid hXl
        have HF := Lib.hid hF
        obtain ⟨S, hS⟩ : ∃ S, S = sumF (fun l => l.units) X := ⟨_, rfl⟩
        rw [← hS]
        have HS := Lib.hid hS
        have HR := Lib.hid (LR.of_row (L := X) (by rw [hXl]; exact HO.out))
        have hx6 : X.length ≤ 1000000 := by omega
        have d7 : dsum (fun l => l.day) 7 X = S := by rw [hS]; exact dsum_all _ (fun x hx => (hF.2 x hx).2.1.2)
        have m7 : dsum (fun l => l.month) 7 X = S := by rw [hS]; exact dsum_all _ (fun x hx => (hF.2 x hx).2.2.2)
        have d0 : dsum (fun l => l.day) 0 X = 0 := dsum_zero _ (fun x hx => (hF.2 x hx).2.1.1)
        have m0 : dsum (fun l => l.month) 0 X = 0 := dsum_zero _ (fun x hx => (hF.2 x hx).2.2.1)
        have D7 := Lib.hid d7
        have M7 := Lib.hid m7
        have D0 := Lib.hid d0
        have M0 := Lib.hid m0
        rw [← hXl] at HR ⊢
        clear hX hXl hF hS HO d7 m7 d0 m0
        have hHD := fun (d : Int) (W : World) (hr : LR W (.slice a1 X.length c1) X) => lheld_any _ X d d W hr hx6
        have HHD := Lib.hid hHD
        have RNG := Lib.hid fun (f : Ls → Int) (k : Int) => dsum_rng HF.out f k
        have SUC := Lib.hid fun (f : Ls → Int) (k : Int) => dsum_succ f k X
        clear hHD
        go_wp2_with fail
        go_loopw [4, 5, 8] (fun a b i wr => ∃ k : Nat, k ≤ 7 ∧ i = .int .i64 k ∧ a = .int .i64 (dsum (fun l => l.day) k X) ∧ b = .int .i64 (dsum (fun l => l.month) k X) ∧ Hid (LR wr (.slice a1 X.length c1) X) ∧ Hid (Below w.heap.size w wr)) (fun _ _ i _ => 7 - (intOf i).toNat)
        case atStart => exact ⟨0, by omega, rfl, by rw [show ((0 : Nat) : Int) = 0 from rfl, D0.out], by rw [show ((0 : Nat) : Int) = 0 from rfl, M0.out], HR, HB⟩
        case round =>
          clear HR HB
          obtain ⟨k, hk, rfl, rfl, rfl, HR, HB⟩ := hrel
          by_cases hk7 : k < 7
          · have i7 : ((k : Int) < 7) := by omega
            have s1 := SUC.out (fun l => l.day) k
            have s2 := SUC.out (fun l => l.month) k
            rw [← heldD_sum HF.out, show (k : Int) + 1 = ((k + 1 : Nat) : Int) by omega] at s1
            rw [← heldM_sum HF.out, show (k : Int) + 1 = ((k + 1 : Nat) : Int) by omega] at s2
            have r1 := RNG.out (fun l => l.day) ((k + 1 : Nat) : Int)
            have r2 := RNG.out (fun l => l.month) ((k + 1 : Nat) : Int)
            have w1 : wrap64 (dsum (fun l => l.day) k X + heldD X k) = dsum (fun l => l.day) ((k + 1 : Nat) : Int) X := by rw [s1]; unfold wrap64; omega
            have w2 : wrap64 (dsum (fun l => l.month) k X + heldM X k) = dsum (fun l => l.month) ((k + 1 : Nat) : Int) X := by rw [s2]; unfold wrap64; omega
            have W1 := Lib.hid w1
            have W2 := Lib.hid w2
            obtain ⟨P1, hP1⟩ : ∃ P1, P1 = dsum (fun l => l.day) k X := ⟨_, rfl⟩
            obtain ⟨P2, hP2⟩ : ∃ P2, P2 = dsum (fun l => l.month) k X := ⟨_, rfl⟩
            rw [← hP1] at W1 ⊢
            rw [← hP2] at W2 ⊢
            clear s1 s2 r1 r2 w1 w2 hP1 hP2
            go_wp2_with fail
            refine (HHD.out k wr HR.out).mono ?_
            rintro e w5 ⟨rfl, hb⟩
            have HR5 := Lib.hid (HR.out.below hb)
            have HB5 := Lib.hid (HB.out.trans (hb.mono HB.out.size))
            clear hb
            go_wp2_with fail
            refine ⟨⟨k + 1, by omega, by go_num, by rw [W1.out], by rw [W2.out], HR5, HB5⟩, by simp [intOf]; omega⟩
          · obtain rfl : k = 7 := by omega
            have z1 : heldD X (-1) = 0 := by rw [heldD_sum HF.out]; exact sumF_zero _ X (fun x hx => by rw [if_neg (by have := (HF.out.2 x hx).2.1.1; omega)])
            have z2 : heldM X (-1) = 0 := by rw [heldM_sum HF.out]; exact sumF_zero _ X (fun x hx => by rw [if_neg (by have := (HF.out.2 x hx).2.2.1; omega)])
            have hq := HHD.out (-1) wr HR.out
            rw [z1, z2] at hq
            have HQ := Lib.hid hq
            have d7 := D7.out
            have m7 := M7.out
            rw [show ((7 : Nat) : Int) = 7 from rfl, d7, m7]
            clear hq z1 z2 d7 m7 hk hk7
            go_wp2_with fail
            refine HQ.out.mono ?_
            rintro e w5 ⟨rfl, hb⟩
            have HB5 := Lib.hid (HB.out.trans (hb.mono HB.out.size))
            clear hb HQ
            go_wp2_with fail
            refine (HG.out _).mono ?_
            rintro e wf ⟨rfl, hb⟩
            have HBF := Lib.hid (HB5.out.trans (hb.mono HB5.out.size))
            clear hb
            go_wp2
            go_ret
            exact ⟨rfl, HBF.out⟩
end Go.Proofs.Ytidppalhjknlfaa
