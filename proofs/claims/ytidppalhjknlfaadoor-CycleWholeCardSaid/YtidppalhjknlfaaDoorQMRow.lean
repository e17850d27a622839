/- What a law's frame wants: arguments that read behind the call as before it; the leaves of what came in. A plan's bytes, read one number after another. -/
import Derived.Test.YtidppalhjknlfaaDoorProg
import Derived.Carry
import Derived.Deep.Slices
import Derived.Deep.Fields
import Derived.ChangeSame
import Derived.OpenShut
import Derived.Test.YtidppalhjknlfaaDoorQPl4
namespace Go.Proofs.YtidppalhjknlfaaDoor
open Go.ChangeShapes Go.WideShapes Go.Deep Go.RowKit
set_option linter.unusedVariables false
set_option linter.unusedSimpArgs false
section
variable {H : Type} {enc : TypeId × Value → H} {P : Program} {w : World} {base : Nat} {spare : Nat → Bool} {held : Bool}
theorem trodAll_lt {spare : Nat → Bool} {held : Bool} : ∀ (ts : List TypeId) (vs : List Value) (ds : List (DataW H)) (ps : List MemPlace), DataW.TrodAll enc P w base spare held ts vs ds ps → ∀ x ∈ ps, x.block < w.heap.size
  | [], [], [], ps, h => by intro x hx; rw [show ps = [] from h] at hx; cases hx
  | t :: ts, v :: vs, d :: ds, ps, h => by
    obtain ⟨p, q, h1, h2, rfl⟩ := h
    intro x hx
    rcases List.mem_append.1 hx with hx | hx
    · obtain ⟨m, hm⟩ := h1; exact DataW.trod_lt m _ _ _ hm x hx
    · exact trodAll_lt ts vs ds q h2 x hx
  | [], [], _ :: _, _, h => h.elim
  | [], _ :: _, _, _, h => h.elim
  | _ :: _, [], _, _, h => h.elim
  | _ :: _, _ :: _, [], _, h => h.elim
theorem trodAll_below (hl : laidOutB P = true) {W W' : World} (hb : Below W.heap.size W W') : ∀ (ts : List TypeId) (vs : List Value) (ds : List (DataW H)) (ps : List MemPlace), (∀ t ∈ ts, P.readableRec t = true ∧ t < P.types.size) →
    DataW.TrodAll enc P W 0 (fun _ => true) true ts vs ds ps → DataW.TrodAll enc P W' 0 (fun b => decide (b < W.heap.size)) true ts vs ds ps
  | [], [], [], ps, _, h => h
  | t :: ts, v :: vs, d :: ds, ps, hr, h => by
    obtain ⟨p, q, h1, h2, rfl⟩ := h
    have hlt : ∀ x ∈ p, x.block < W.heap.size := by obtain ⟨m, hm⟩ := h1; exact DataW.trod_lt m _ _ _ hm
    exact ⟨p, q, Below.trod hl (hr t (by simp)).1 (hr t (by simp)).2 h1 hb hlt, trodAll_below hl hb ts vs ds q (fun t ht => hr t (by simp [ht])) h2, rfl⟩
  | [], [], _ :: _, _, _, h => h.elim
  | [], _ :: _, _, _, _, h => h.elim
  | _ :: _, [], _, _, _, h => h.elim
  | _ :: _, _ :: _, [], _, _, h => h.elim
theorem readable_all {ts : List TypeId} (h : ts.all (fun t => P.readableRec t && decide (t < P.types.size)) = true) : ∀ t ∈ ts, P.readableRec t = true ∧ t < P.types.size := by
  intro t ht
  have := List.all_eq_true.1 h t ht
  rw [Bool.and_eq_true, decide_eq_true_eq] at this
  exact this
/-! ### leaves -/
theorem leaf_int {t : TypeId} {k : IntKind} {n : Nat} {c : List Value} {y : DataW H × List MemPlace} (ht : P.underlying t = some (.int k)) (h : DataW.trod enc P w base spare held n t c = some y) : ∃ z, c = [.int k z] ∧ (Lit.int k z).wf = true := by
  obtain ⟨z, hc, _, hw⟩ := DataW.trod_int ht h
  exact ⟨z, hc, hw⟩
theorem leaf_str {t : TypeId} {n : Nat} {c : List Value} {y : DataW H × List MemPlace} (ht : P.underlying t = some .string) (h : DataW.trod enc P w base spare held n t c = some y) : ∃ s, c = [.string s] ∧ s.size ≤ maxLen := by
  cases n with
  | zero => simp [DataW.trod] at h
  | succ n =>
    unfold DataW.trod at h
    rw [ht] at h
    split at h <;> simp_all
theorem leaf_bool {t : TypeId} {n : Nat} {c : List Value} {y : DataW H × List MemPlace} (ht : P.underlying t = some .bool) (h : DataW.trod enc P w base spare held n t c = some y) : ∃ b, c = [.bool b] := by
  cases n with
  | zero => simp [DataW.trod] at h
  | succ n =>
    unfold DataW.trod at h
    rw [ht] at h
    split at h <;> simp_all
theorem field_trod {t : TypeId} {fs : Array Field} {n : Nat} {c : List Value} {y : DataW H × List MemPlace} (ht : P.underlying t = some (.struct fs)) (h : DataW.trod enc P w base spare held n t c = some y) :
    c.length = P.cellsOf t ∧ ∀ (j : Nat) (f : Field), fs[j]? = some f → ∃ m z, DataW.trod enc P w base spare held m f.type ((c.drop f.offset).take (P.cellsOf f.type)) = some z := by
  obtain ⟨ys, n', _, _, hl, hyl, hf⟩ := DataW.trod_struct ht h
  refine ⟨hl, fun j f hj => ?_⟩
  have h1 := hf j f hj
  have hjl : j < fs.size := (Array.getElem?_eq_some_iff.1 hj).1
  exact ⟨n', ys[j]'(by omega), h1.trans (List.getElem?_eq_getElem (by omega))⟩
theorem take_one {c : List Value} {o : Nat} {v : Value} (h : (c.drop o).take 1 = [v]) : c[o]? = some v := by
  have : ((c.drop o).take 1)[0]? = some v := by rw [h]; rfl
  simpa using this
end
end Go.Proofs.YtidppalhjknlfaaDoor
namespace Go.Proofs.YtidppalhjknlfaaDoor
open Go.RowKit Go.Shelf
set_option maxRecDepth 100000
set_option linter.unusedVariables false
set_option linter.unusedSimpArgs false
def numsR (N : Fin 5 → Int) : List (Fin 5) → ByteArray → ByteArray
  | [], u => u
  | x :: l, u => i8 (N x) ++ numsR N l u
def tiersR : List Tr → ByteArray
  | [] => ByteArray.empty
  | t :: l => i8 t.upto ++ (i8 t.price ++ tiersR l)
theorem ba_assoc (a b c : ByteArray) : a ++ b ++ c = a ++ (b ++ c) := by
  apply ba_ext
  simp only [append_list, List.append_assoc]
theorem encL_right (N : Fin 5 → Int) : ∀ (l : List (Fin 5)) (s u : ByteArray), encL N s l ++ u = s ++ numsR N l u
  | [], s, u => rfl
  | x :: l, s, u => by
    show encL N (s ++ i8 (N x)) l ++ u = s ++ (i8 (N x) ++ numsR N l u)
    rw [encL_right N l, ba_assoc]
theorem encT_right : ∀ (l : List Tr) (s : ByteArray), encT s l = s ++ tiersR l
  | [], s => by
    show s = s ++ ByteArray.empty
    simp
  | t :: l, s => by
    show encT (s ++ i8 t.upto ++ i8 t.price) l = s ++ (i8 t.upto ++ (i8 t.price ++ tiersR l))
    rw [encT_right l, ba_assoc, ba_assoc]
theorem Pl.enc_right (p : Pl) : p.enc = be8 p.id ++ numsR p.num NUMS (i8 p.tiers.length ++ tiersR p.tiers) := by
  unfold Pl.enc
  rw [encT_right, ba_assoc, encL_right]
theorem rd8 (n : Int) (u : ByteArray) (h : W64 n) : wrap64 (Rd.val ⟨i8 n ++ u, false⟩ 8) = n ∧ Rd.skip ⟨i8 n ++ u, false⟩ 8 = ⟨u, false⟩ := by
  have e8 : 8 = (i8 n).size := (i8_size n).symm
  refine ⟨?_, rd_skip _ _ 8 e8⟩
  rw [rd_val _ _ 8 e8, valB_i8 n h]
theorem rdb8 (n : Int) (u : ByteArray) (h0 : 0 ≤ n) (h1 : n ≤ 18446744073709551615) : Rd.val ⟨be8 n ++ u, false⟩ 8 = n ∧ Rd.skip ⟨be8 n ++ u, false⟩ 8 = ⟨u, false⟩ := by
  have e8 : 8 = (be8 n).size := (be_size n 8).symm
  refine ⟨?_, rd_skip _ _ 8 e8⟩
  rw [rd_val _ _ 8 e8, valB_be8 n h0 h1]
/-- the plan's cells behind so many stores -/
def fillP (N : Fin 5 → Int) (c : Array Value) (pre : List (Fin 5)) : Array Value :=
  (pre.foldl (fun (a : Array Value × Nat) x => (a.1.setIfInBounds (x.val + 1) (.int .i64 (N (NUMS.getD a.2 0))), a.2 + 1)) (c, 0)).1
theorem fillP_snd (N : Fin 5 → Int) : ∀ (pre : List (Fin 5)) (c : Array Value) (k : Nat), (pre.foldl (fun (a : Array Value × Nat) x => (a.1.setIfInBounds (x.val + 1) (.int .i64 (N (NUMS.getD a.2 0))), a.2 + 1)) (c, k)).2 = k + pre.length
  | [], c, k => rfl
  | x :: pre, c, k => by
    rw [List.foldl_cons, fillP_snd N pre, List.length_cons]; omega
theorem fillP_snoc (N : Fin 5 → Int) (c : Array Value) (pre : List (Fin 5)) (x : Fin 5) : fillP N c (pre ++ [x]) = (fillP N c pre).setIfInBounds (x.val + 1) (.int .i64 (N (NUMS.getD pre.length 0))) := by
  unfold fillP
  rw [List.foldl_append, List.foldl_cons, List.foldl_nil]
  have := fillP_snd N pre c 0
  rw [Nat.zero_add] at this
  dsimp only
  rw [this]
theorem fillP_size (N : Fin 5 → Int) (c : Array Value) (pre : List (Fin 5)) : (fillP N c pre).size = c.size := by
  unfold fillP
  have key : ∀ (pre : List (Fin 5)) (a : Array Value × Nat), (pre.foldl (fun (a : Array Value × Nat) x => (a.1.setIfInBounds (x.val + 1) (.int .i64 (N (NUMS.getD a.2 0))), a.2 + 1)) a).1.size = a.1.size := by
    intro pre
    induction pre with
    | nil => intro a; rfl
    | cons x pre ih => intro a; rw [List.foldl_cons, ih]; simp
  exact key pre (c, 0)
theorem fillP_all (p : Pl) (v a b c d e : Value) : fillP p.num #[.int .u32 p.id, a, b, c, d, e, v] NUMS = #[.int .u32 p.id, .int .i64 p.daily, .int .i64 p.monthly, .int .i64 p.over, .int .i64 p.roll, .int .i64 p.base, v] := rfl
theorem RdIs.own {β : Type} (q : Nat) (f : β → Rd) (n₀ : Nat) : OwnFrom n₀ (fun (s : β) W => RdIs W q (f s)) := by
  intro s X Y row h hg hr
  refine h.keep (keep_row hg) (fun e => ?_) (fun b o x hc e => ?_)
  · obtain ⟨_, ob, ho, hcl⟩ := hr q e
    obtain ⟨v, h1, _⟩ := h
    cases ob <;> simp_all [Obj.isCells]
  · obtain ⟨_, ob, ho, hcl⟩ := hr b e
    cases ob <;> simp_all [World.cell?, Obj.isCells]
end Go.Proofs.YtidppalhjknlfaaDoor
