/- The document's map (chapter 16): what it is in memory; append of pairs; the walks of its place, Get, Commit, Abort. -/
import Derived.Test.YtiadoimdohnebaaActLaw
import Derived.Test.YtiadoimdohnebaaApp
import Derived.Test.YtiadoimdohnebaaReg
import Derived.Deep.DeepCutAuto
import Derived.Maps.AppendAt
namespace Go.Proofs.Ytiadoimdohnebaa
open Go.RowKit
set_option maxRecDepth 100000
set_option maxHeartbeats 1000000
set_option linter.unusedVariables false
set_option linter.unusedSimpArgs false
theorem rowk_keep {w w' : World} {F : Nat → Prop} {B : Nat} {e : TypeId} {n k : Nat} {v : Value} {xs : List Value} (h : Keep F w w') (hr : w.ownsRow B e k v n xs) (hA : ∀ i, v.ownBlock = some i → ¬ F i) : w'.ownsRow B e k v n xs := by
  refine ⟨hr.1, ?_⟩
  rcases hr.2 with hn | ⟨g, cap, cur, he, hb, hg, rest⟩
  · exact .inl hn
  · exact .inr ⟨g, cap, cur, he, hb, h.blk hg (hA g (by rw [he]; rfl)), rest⟩
theorem rowk_blk {w : World} {B : Nat} {e : TypeId} {n k : Nat} {v : Value} {xs : List Value} (hr : w.ownsRow B e k v n xs) {i : Nat} (hi : v.ownBlock = some i) : B ≤ i ∧ i < w.heap.size ∧ ∃ c, w.heap[i]? = some (.cells c e (0, 0)) := by
  rcases hr.2 with ⟨he, _⟩ | ⟨g, cap, cur, he, hb, hg, rest⟩
  · rw [he] at hi; cases hi
  · rw [he] at hi; cases hi; exact ⟨hb, blk_lt hg, cur, hg⟩
theorem rowk_shape {w : World} {B : Nat} {e : TypeId} {n k : Nat} {v : Value} {xs : List Value} (h : w.ownsRow B e k v n xs) : ∃ a cap, v = .slice a n cap := by
  rcases h.2 with ⟨he, h0⟩ | ⟨g, cap, cur, he, _⟩
  · exact ⟨none, 0, by rw [he, h0]⟩
  · exact ⟨_, _, he⟩
theorem rowk_cell {w : World} {B : Nat} {e : TypeId} {n k : Nat} {v : Value} {xs : List Value} (hr : w.ownsRow B e k v n xs) (hn : 0 < n) : ∃ g cap, v = .slice (some ⟨g, 0, none⟩) n cap ∧ ∀ (i : Nat) u, xs[i]? = some u → w.cell? ⟨g, i, none⟩ = some u := by
  rcases hr.2 with ⟨_, h0⟩ | ⟨g, cap, cur, he, hbg, hg, rest⟩
  · omega
  · refine ⟨g, cap, he, fun i u hu => ?_⟩
    have := hr.cells (g := g) (by rw [he]; rfl) i u hu
    rw [Go.WideShapes.add_plain, Nat.zero_add] at this
    exact this
theorem rowk_lower {w : World} {B B' : Nat} {e : TypeId} {n k : Nat} {v : Value} {xs : List Value} (h : w.ownsRow B e k v n xs) (hb : B' ≤ B) : w.ownsRow B' e k v n xs := by
  refine ⟨h.1, ?_⟩
  rcases h.2 with hn | ⟨g, cap, cur, he, hbg, rest⟩
  · exact .inl hn
  · exact .inr ⟨g, cap, cur, he, Nat.le_trans hb hbg, rest⟩
abbrev Pr := ByteArray × ByteArray
def pc (q : Pr) : List Value := [.string q.1, .string q.2]
theorem pc_len (l : AL) : (l.flatMap pc).length = l.length * 2 := by
  induction l with
  | nil => rfl
  | cons a l ih => rw [List.flatMap_cons, List.length_append, ih, List.length_cons]; show 2 + _ = _; omega
theorem pflat_get : ∀ (l : AL) (i : Nat) (q : Pr), l[i]? = some q → (l.flatMap pc)[i * 2]? = some (.string q.1) ∧ (l.flatMap pc)[i * 2 + 1]? = some (.string q.2)
  | [], i, q, h => by simp at h
  | a :: l, 0, q, h => by
    simp only [List.getElem?_cons_zero, Option.some.injEq] at h
    subst h
    exact ⟨rfl, rfl⟩
  | a :: l, i + 1, q, h => by
    rw [List.getElem?_cons_succ] at h
    have ih := pflat_get l i q h
    rw [List.flatMap_cons, List.getElem?_append_right (by show 2 ≤ _; omega), List.getElem?_append_right (by show 2 ≤ _; omega)]
    rw [show (i + 1) * 2 - (pc a).length = i * 2 by show (i + 1) * 2 - 2 = _; omega, show (i + 1) * 2 + 1 - (pc a).length = i * 2 + 1 by show (i + 1) * 2 + 1 - 2 = _; omega]
    exact ih
theorem pc_one (l : AL) : ∀ u ∈ l.flatMap pc, u.oneCell' = true := by
  intro u hu
  obtain ⟨q, _, hq⟩ := List.mem_flatMap.1 hu
  simp only [pc, List.mem_cons, List.not_mem_nil, or_false] at hq
  rcases hq with rfl | rfl <;> rfl
theorem pc_drop (l : AL) (n : Nat) : (l.drop n).flatMap pc = (l.flatMap pc).drop (n * 2) := by
  induction l generalizing n with
  | nil => simp
  | cons a l ih =>
    cases n with
    | zero => simp
    | succ n =>
      rw [List.drop_succ_cons, ih, List.flatMap_cons, show (n + 1) * 2 = (pc a).length + n * 2 by show _ = 2 + _; omega, List.drop_append]
      simp
/-- pairs that are only read -/
def QR (w : World) (v : Value) (l : AL) : Prop :=
  ∃ a c, v = .slice a l.length c ∧ (a = none → c = 0) ∧ c ≤ maxLen ∧ l.length ≤ c ∧ (l = [] ∨ ∃ b off, a = some ⟨b, off, none⟩ ∧ ∀ (j : Nat) u, (l.flatMap pc)[j]? = some u → w.cell? ⟨b, off + j, none⟩ = some u)
theorem QR.ofRow {w : World} {B : Nat} {v : Value} {l : AL} (h : w.ownsRow B 117 2 v l.length (l.flatMap pc)) : QR w v l := by
  rcases h.2 with ⟨he, h0⟩ | ⟨g, cap, cur, he, hbg, hg, hn, hm, rest⟩
  · exact ⟨none, 0, by rw [he, h0], fun _ => rfl, by decide, by omega, .inl (List.eq_nil_of_length_eq_zero h0)⟩
  · refine ⟨some ⟨g, 0, none⟩, cap, he, (fun e => by cases e), hm, hn, .inr ⟨g, 0, rfl, fun j u hu => ?_⟩⟩
    have := h.cells (g := g) (by rw [he]; rfl) j u hu
    rw [Go.WideShapes.add_plain] at this
    exact this
theorem uPr : Try.prog.underlying 75 = some (.slice 117) := by kernel_rfl
theorem iPr : (Try.prog.info? 117).map (fun i => (i.zero, i.size, i.bytes)) = some (some (.agg #[.string ByteArray.empty, .string ByteArray.empty]), 2, 32) := by kernel_rfl
theorem sizePr (W : World) : (sizeOf (Try.prog.elem 75)).run Try.prog W = .ok 2 W := by kernel_rfl
theorem elemPr : Try.prog.underlying 75 = some (.slice (Try.prog.elem 75)) := by kernel_rfl
/-- l[:n] -/
theorem cut_h (a : Option Addr) (c : Nat) (l : AL) (n : Nat) (hn : n ≤ l.length) (hc : l.length ≤ c) (hcm : c ≤ maxLen) (hnone : a = none → c = 0) :
    (∀ W, (Instr.slice 75 (.slice a l.length c) none (some (.int .i64 (n : Int))) none).run Try.prog W = .ok (.slice a n c) W) ∧ ∀ W, QR W (.slice a l.length c) l → QR W (.slice a n c) (l.take n) := by
  have hl : (l.take n).length = n := by rw [List.length_take]; omega
  refine ⟨fun W => ?_, fun W hW => ?_⟩
  · rw [run_slice_h (P := Try.prog) W 75 a l.length c elemPr .i64 (n : Int) (by omega) (by omega), sizePr]
    simp only [Result.andThen, sliced, Int.toNat_natCast, Nat.sub_zero, Nat.zero_mul]
    congr 2
    cases a with
    | none => simp
    | some x =>
      obtain ⟨b, o, s⟩ := x
      by_cases h0 : c = 0
      · simp [h0]
      · simp [h0, Addr.add]
  · obtain ⟨a', c', he, h1, h2, h3, h4⟩ := hW
    injection he with he1 he2 he3
    subst he1; subst he3
    refine ⟨a, c, by rw [hl], h1, h2, by omega, ?_⟩
    rcases h4 with h4 | ⟨b, off, rfl, h4⟩
    · exact .inl (by rw [h4]; simp)
    · refine .inr ⟨b, off, rfl, fun j u hu => h4 j u ?_⟩
      have e : l.flatMap pc = (l.take n).flatMap pc ++ (l.drop n).flatMap pc := by rw [← List.flatMap_append, List.take_append_drop]
      rw [e, List.getElem?_append_left (List.getElem?_eq_some_iff.1 hu).1]
      exact hu
/-- l[n:] -/
theorem cut_lo (a : Option Addr) (c : Nat) (l : AL) (n : Nat) (hn : n ≤ l.length) (hc : l.length ≤ c) (hcm : c ≤ maxLen) (hnone : a = none → c = 0) :
    ∃ a' c', (∀ W, (Instr.slice 75 (.slice a l.length c) (some (.int .i64 (n : Int))) none none).run Try.prog W = .ok (.slice a' (l.length - n) c') W) ∧ ∀ W, QR W (.slice a l.length c) l → QR W (.slice a' (l.length - n) c') (l.drop n) := by
  have hl : (l.drop n).length = l.length - n := List.length_drop
  refine ⟨if c = n then a else a.map (·.add (n * 2)), c - n, fun W => ?_, fun W hW => ?_⟩
  · rw [run_slice_l (P := Try.prog) W 75 a l.length c elemPr .i64 (n : Int) (by omega) (by omega), sizePr]
    simp only [Result.andThen, sliced, Int.toNat_natCast]
  · obtain ⟨a', c', he, h1, h2, h3, h4⟩ := hW
    injection he with he1 he2 he3
    subst he1; subst he3
    refine ⟨_, _, by rw [hl], fun h => ?_, by omega, by omega, ?_⟩
    · split at h
      · rw [h1 h]; omega
      · cases a with
        | none => rw [h1 rfl]; omega
        | some x => cases h
    · by_cases hd : l.length = n
      · exact .inl (List.eq_nil_of_length_eq_zero (by rw [hl]; omega))
      · rcases h4 with h4 | ⟨b, off, rfl, h4⟩
        · rw [h4] at hd hn; simp at hd hn; omega
        · refine .inr ⟨b, off + n * 2, ?_, fun j u hu => ?_⟩
          · rw [if_neg (by omega), Option.map_some, Go.WideShapes.add_plain]
          · rw [pc_drop, List.getElem?_drop] at hu
            rw [Nat.add_assoc]
            exact h4 _ u hu
theorem QR.from_ {W : World} {a : Option Addr} {c : Nat} {l : AL} (hW : QR W (.slice a l.length c) l) (n : Nat) (hn : n ≤ l.length) : QR W (.slice (if c = n then a else Option.map (fun x => x.add (n * 2)) a) (l.length - n) (c - n)) (l.drop n) := by
  have hl : (l.drop n).length = l.length - n := List.length_drop
  obtain ⟨a', c', he, h1, h2, h3, h4⟩ := hW
  injection he with he1 he2 he3
  subst he1; subst he3
  refine ⟨_, _, by rw [hl], fun h => ?_, by omega, by omega, ?_⟩
  · split at h
    · rw [h1 h]; omega
    · cases a with
      | none => rw [h1 rfl]; omega
      | some x => cases h
  · by_cases hd : l.length = n
    · exact .inl (List.eq_nil_of_length_eq_zero (by rw [hl]; omega))
    · rcases h4 with h4 | ⟨b, off, rfl, h4⟩
      · rw [h4] at hd hn; simp at hd hn; omega
      · refine .inr ⟨b, off + n * 2, ?_, fun j u hu => ?_⟩
        · rw [if_neg (by omega), Option.map_some, Go.WideShapes.add_plain]
        · rw [pc_drop, List.getElem?_drop] at hu
          rw [Nat.add_assoc]
          exact h4 _ u hu
theorem QR.keep {F : Nat → Prop} {w w' : World} {v : Value} {l : AL} (h : QR w v l) (hk : Keep F w w') (hF : ∀ k, v.ownBlock = some k → ¬ F k) : QR w' v l := by
  obtain ⟨a, c, rfl, h1, h2, h3, h4⟩ := h
  refine ⟨a, c, rfl, h1, h2, h3, ?_⟩
  rcases h4 with h4 | ⟨b, off, rfl, h4⟩
  · exact .inl h4
  · exact .inr ⟨b, off, rfl, fun j u hu => hk.cell (h4 j u hu) (hF b rfl)⟩
section
variable {ops : Array Oper} {rest : List Oper} {o : Oper} {a : Act} {Q : Exit → Act → World → Prop}
/-- l = append(l, m...) -/
theorem wp_app_q {W : World} (base : Nat) (hgd : o.guard = none) (sl x : Operand) (ho : o.op = .call { callee := .builtin .append, args := #[sl, x], argTypes := #[75, 75] })
    (v y : Value) (l m : AL) (hs : a.eval sl = v) (hx : a.eval x = y) (HO : W.ownsRow base 117 2 v l.length (l.flatMap pc)) (HY : QR W y m) (hbase : base ≤ W.heap.size)
    (hl : l.length ≤ 1000000) (hm : m.length ≤ 1000000)
    (h : ∀ v' w', w'.ownsRow base 117 2 v' (l ++ m).length ((l ++ m).flatMap pc) → Keep (fun k => v.ownBlock = some k) W w' → (∀ k, v'.ownBlock = some k → v.ownBlock = some k ∨ W.heap.size ≤ k) → wpList Try.prog ops Q rest (a.put o.dst v') w') :
    wpList Try.prog ops Q (o :: rest) a W := by
  obtain ⟨i0, hi, hzz⟩ := Option.map_eq_some_iff.1 iPr
  simp only [Prod.mk.injEq] at hzz
  obtain ⟨hz0, hz1, hz2⟩ := hzz
  obtain ⟨ad, cap, rfl, hnn, hcm, hlc, hcase⟩ := HY
  cases ad with
  | none =>
    obtain rfl : cap = 0 := hnn rfl
    have hm0 : m = [] := List.eq_nil_of_length_eq_zero (by omega)
    subst hm0
    refine wpList_append_own_none hgd sl x 75 ho base 117 i0 2 uPr hi v l.length (l.flatMap pc) hs HO hx ?_
    exact h v W (by rw [List.append_nil]; exact HO) (Keep.refl _ _) (fun k hk => .inl hk)
  | some ad =>
    have hcells : ∀ j u, (m.flatMap pc)[j]? = some u → W.cell? (ad.add j) = some u := fun j u hu => by
      rcases hcase with rfl | ⟨b, off, he, hc⟩
      · simp at hu
      · injection he with he
        subst he
        rw [Go.WideShapes.add_plain]
        exact hc j u hu
    refine wpList_append_own_at W hgd sl x 75 ho base 117 i0 _ 2 32 uPr hi hz0 hz1 hz2 rfl (by omega) v l.length (l.flatMap pc) hs HO ad m.length cap (m.flatMap pc) hx (pc_len m) hcells (pc_one m) (by simp only [maxLen]; omega) (by omega) hbase ?_
    intro v1 w1 hown hg _ hat
    refine h v1 w1 ?_ (keep_grown hg) (fun k hk => ?_)
    · rw [List.flatMap_append, List.length_append]; exact hown
    · rcases hat with hat | hat
      · exact .inl (hat ▸ hk)
      · rw [hat] at hk; cases hk; exact .inr (Nat.le_refl _)
end
end Go.Proofs.Ytiadoimdohnebaa
