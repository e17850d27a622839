/- What a law's frame wants: arguments that read behind the call as before it; the leaves of what came in. A plan's bytes, read one number after another. Acts of quitrentlaw21, segments, that came in, in the walks' words. The walks of the references quitrentref08.Day, First, quitrentref09.Month, Start. -/
import Derived.Test.YtidppalhjknlfaaGreatDoorProg
import Derived.Carry
import Derived.Deep.Slices
import Derived.Deep.Fields
import Derived.ChangeSame
import Derived.OpenShut
import Derived.Test.YtidppalhjknlfaaGreatDoorQMPl4
import Derived.Test.YtidppalhjknlfaaGreatDoorQCy1
import Derived.Test.YtidppalhjknlfaaGreatDoorQMMake
import Derived.DataShut
import Derived.Test.YtidppalhjknlfaaGreatDoorQPer3
namespace Go.Proofs.YtidppalhjknlfaaGreatDoor
open Go.ChangeShapes Go.WideShapes Go.Deep Go.RowKit
set_option linter.unusedVariables false
set_option linter.unusedSimpArgs false
section
variable {H : Type} {enc : TypeId × Value → H} {P : Program} {w : World} {base : Nat} {spare : Nat → Bool} {held : Bool}
theorem trodAll_lt {spare : Nat → Bool} {held : Bool} : ∀ (ts : List TypeId) (vs : List Value) (ds : List (DataW H)) (ps : List MemPlace), DataW.TrodAll enc P w base spare held ts vs ds ps → ∀ x ∈ ps, x.block < w.heap.size
  | [], [], [], ps, h => by intro x hx; rw [show ps = [] from h] at hx; cases hx
  | t :: ts, v :: vs, d :: ds, ps, h => by
    obtain ⟨p, q, h1, h2, rfl⟩ := h
    intro x hx
    rcases List.mem_append.1 hx with hx | hx
    · obtain ⟨m, hm⟩ := h1; exact DataW.trod_lt m _ _ _ hm x hx
    · exact trodAll_lt ts vs ds q h2 x hx
  | [], [], _ :: _, _, h => h.elim
  | [], _ :: _, _, _, h => h.elim
  | _ :: _, [], _, _, h => h.elim
  | _ :: _, _ :: _, [], _, h => h.elim
theorem trodAll_below (hl : laidOutB P = true) {W W' : World} (hb : Below W.heap.size W W') : ∀ (ts : List TypeId) (vs : List Value) (ds : List (DataW H)) (ps : List MemPlace), (∀ t ∈ ts, P.readableRec t = true ∧ t < P.types.size) →
    DataW.TrodAll enc P W 0 (fun _ => true) true ts vs ds ps → DataW.TrodAll enc P W' 0 (fun b => decide (b < W.heap.size)) true ts vs ds ps
  | [], [], [], ps, _, h => h
  | t :: ts, v :: vs, d :: ds, ps, hr, h => by
    obtain ⟨p, q, h1, h2, rfl⟩ := h
    have hlt : ∀ x ∈ p, x.block < W.heap.size := by obtain ⟨m, hm⟩ := h1; exact DataW.trod_lt m _ _ _ hm
    exact ⟨p, q, Below.trod hl (hr t (by simp)).1 (hr t (by simp)).2 h1 hb hlt, trodAll_below hl hb ts vs ds q (fun t ht => hr t (by simp [ht])) h2, rfl⟩
  | [], [], _ :: _, _, _, h => h.elim
  | [], _ :: _, _, _, _, h => h.elim
  | _ :: _, [], _, _, _, h => h.elim
  | _ :: _, _ :: _, [], _, _, h => h.elim
theorem readable_all {ts : List TypeId} (h : ts.all (fun t => P.readableRec t && decide (t < P.types.size)) = true) : ∀ t ∈ ts, P.readableRec t = true ∧ t < P.types.size := by
  intro t ht
  have := List.all_eq_true.1 h t ht
  rw [Bool.and_eq_true, decide_eq_true_eq] at this
  exact this
/-! ### leaves -/
theorem leaf_int {t : TypeId} {k : IntKind} {n : Nat} {c : List Value} {y : DataW H × List MemPlace} (ht : P.underlying t = some (.int k)) (h : DataW.trod enc P w base spare held n t c = some y) : ∃ z, c = [.int k z] ∧ (Lit.int k z).wf = true := by
  obtain ⟨z, hc, _, hw⟩ := DataW.trod_int ht h
  exact ⟨z, hc, hw⟩
theorem leaf_str {t : TypeId} {n : Nat} {c : List Value} {y : DataW H × List MemPlace} (ht : P.underlying t = some .string) (h : DataW.trod enc P w base spare held n t c = some y) : ∃ s, c = [.string s] ∧ s.size ≤ maxLen := by
  cases n with
  | zero => simp [DataW.trod] at h
  | succ n =>
    unfold DataW.trod at h
    rw [ht] at h
    split at h <;> simp_all
theorem leaf_bool {t : TypeId} {n : Nat} {c : List Value} {y : DataW H × List MemPlace} (ht : P.underlying t = some .bool) (h : DataW.trod enc P w base spare held n t c = some y) : ∃ b, c = [.bool b] := by
  cases n with
  | zero => simp [DataW.trod] at h
  | succ n =>
    unfold DataW.trod at h
    rw [ht] at h
    split at h <;> simp_all
theorem field_trod {t : TypeId} {fs : Array Field} {n : Nat} {c : List Value} {y : DataW H × List MemPlace} (ht : P.underlying t = some (.struct fs)) (h : DataW.trod enc P w base spare held n t c = some y) :
    c.length = P.cellsOf t ∧ ∀ (j : Nat) (f : Field), fs[j]? = some f → ∃ m z, DataW.trod enc P w base spare held m f.type ((c.drop f.offset).take (P.cellsOf f.type)) = some z := by
  obtain ⟨ys, n', _, _, hl, hyl, hf⟩ := DataW.trod_struct ht h
  refine ⟨hl, fun j f hj => ?_⟩
  have h1 := hf j f hj
  have hjl : j < fs.size := (Array.getElem?_eq_some_iff.1 hj).1
  exact ⟨n', ys[j]'(by omega), h1.trans (List.getElem?_eq_getElem (by omega))⟩
theorem take_one {c : List Value} {o : Nat} {v : Value} (h : (c.drop o).take 1 = [v]) : c[o]? = some v := by
  have : ((c.drop o).take 1)[0]? = some v := by rw [h]; rfl
  simpa using this
end
end Go.Proofs.YtidppalhjknlfaaGreatDoor
namespace Go.Proofs.YtidppalhjknlfaaGreatDoor
open Go.RowKit Go.Shelf
set_option maxRecDepth 100000
set_option linter.unusedVariables false
set_option linter.unusedSimpArgs false
def numsR (N : Fin 5 → Int) : List (Fin 5) → ByteArray → ByteArray
  | [], u => u
  | x :: l, u => i8 (N x) ++ numsR N l u
def tiersR : List Tr → ByteArray
  | [] => ByteArray.empty
  | t :: l => i8 t.upto ++ (i8 t.price ++ tiersR l)
theorem ba_assoc (a b c : ByteArray) : a ++ b ++ c = a ++ (b ++ c) := by
  apply ba_ext
  simp only [append_list, List.append_assoc]
theorem encL_right (N : Fin 5 → Int) : ∀ (l : List (Fin 5)) (s u : ByteArray), encL N s l ++ u = s ++ numsR N l u
  | [], s, u => rfl
  | x :: l, s, u => by
    show encL N (s ++ i8 (N x)) l ++ u = s ++ (i8 (N x) ++ numsR N l u)
    rw [encL_right N l, ba_assoc]
theorem encT_right : ∀ (l : List Tr) (s : ByteArray), encT s l = s ++ tiersR l
  | [], s => by
    show s = s ++ ByteArray.empty
    simp
  | t :: l, s => by
    show encT (s ++ i8 t.upto ++ i8 t.price) l = s ++ (i8 t.upto ++ (i8 t.price ++ tiersR l))
    rw [encT_right l, ba_assoc, ba_assoc]
theorem Pl.enc_right (p : Pl) : p.enc = be8 p.id ++ numsR p.num NUMS (i8 p.tiers.length ++ tiersR p.tiers) := by
  unfold Pl.enc
  rw [encT_right, ba_assoc, encL_right]
theorem rd8 (n : Int) (u : ByteArray) (h : W64 n) : wrap64 (Rd.val ⟨i8 n ++ u, false⟩ 8) = n ∧ Rd.skip ⟨i8 n ++ u, false⟩ 8 = ⟨u, false⟩ := by
  have e8 : 8 = (i8 n).size := (i8_size n).symm
  refine ⟨?_, rd_skip _ _ 8 e8⟩
  rw [rd_val _ _ 8 e8, valB_i8 n h]
theorem rdb8 (n : Int) (u : ByteArray) (h0 : 0 ≤ n) (h1 : n ≤ 18446744073709551615) : Rd.val ⟨be8 n ++ u, false⟩ 8 = n ∧ Rd.skip ⟨be8 n ++ u, false⟩ 8 = ⟨u, false⟩ := by
  have e8 : 8 = (be8 n).size := (be_size n 8).symm
  refine ⟨?_, rd_skip _ _ 8 e8⟩
  rw [rd_val _ _ 8 e8, valB_be8 n h0 h1]
/-- the plan's cells behind so many stores -/
def fillP (N : Fin 5 → Int) (c : Array Value) (pre : List (Fin 5)) : Array Value :=
  (pre.foldl (fun (a : Array Value × Nat) x => (a.1.setIfInBounds (x.val + 1) (.int .i64 (N (NUMS.getD a.2 0))), a.2 + 1)) (c, 0)).1
theorem fillP_snd (N : Fin 5 → Int) : ∀ (pre : List (Fin 5)) (c : Array Value) (k : Nat), (pre.foldl (fun (a : Array Value × Nat) x => (a.1.setIfInBounds (x.val + 1) (.int .i64 (N (NUMS.getD a.2 0))), a.2 + 1)) (c, k)).2 = k + pre.length
  | [], c, k => rfl
  | x :: pre, c, k => by
    rw [List.foldl_cons, fillP_snd N pre, List.length_cons]; omega
theorem fillP_snoc (N : Fin 5 → Int) (c : Array Value) (pre : List (Fin 5)) (x : Fin 5) : fillP N c (pre ++ [x]) = (fillP N c pre).setIfInBounds (x.val + 1) (.int .i64 (N (NUMS.getD pre.length 0))) := by
  unfold fillP
  rw [List.foldl_append, List.foldl_cons, List.foldl_nil]
  have := fillP_snd N pre c 0
  rw [Nat.zero_add] at this
  dsimp only
  rw [this]
theorem fillP_size (N : Fin 5 → Int) (c : Array Value) (pre : List (Fin 5)) : (fillP N c pre).size = c.size := by
  unfold fillP
  have key : ∀ (pre : List (Fin 5)) (a : Array Value × Nat), (pre.foldl (fun (a : Array Value × Nat) x => (a.1.setIfInBounds (x.val + 1) (.int .i64 (N (NUMS.getD a.2 0))), a.2 + 1)) a).1.size = a.1.size := by
    intro pre
    induction pre with
    | nil => intro a; rfl
    | cons x pre ih => intro a; rw [List.foldl_cons, ih]; simp
  exact key pre (c, 0)
theorem fillP_all (p : Pl) (v a b c d e : Value) : fillP p.num #[.int .u32 p.id, a, b, c, d, e, v] NUMS = #[.int .u32 p.id, .int .i64 p.daily, .int .i64 p.monthly, .int .i64 p.over, .int .i64 p.roll, .int .i64 p.base, v] := rfl
theorem RdIs.own {β : Type} (q : Nat) (f : β → Rd) (n₀ : Nat) : OwnFrom n₀ (fun (s : β) W => RdIs W q (f s)) := by
  intro s X Y row h hg hr
  refine h.keep (keep_row hg) (fun e => ?_) (fun b o x hc e => ?_)
  · obtain ⟨_, ob, ho, hcl⟩ := hr q e
    obtain ⟨v, h1, _⟩ := h
    cases ob <;> simp_all [Obj.isCells]
  · obtain ⟨_, ob, ho, hcl⟩ := hr b e
    cases ob <;> simp_all [World.cell?, Obj.isCells]
end Go.Proofs.YtidppalhjknlfaaGreatDoor
namespace Go.Proofs.YtidppalhjknlfaaGreatDoor
open Go.ChangeShapes Go.WideShapes Go.Deep Go.RowKit
set_option linter.unusedVariables false
set_option linter.unusedSimpArgs false
set_option maxRecDepth 100000
section
variable {H : Type} {enc : TypeId × Value → H} {P : Program} {w : World} {base : Nat} {spare : Nat → Bool} {held : Bool}
/-- each element's cells, and what they read as -/
theorem slice_cells {t e : TypeId} {fuel : Nat} {cs : List Value} {x : DataW H × List MemPlace} (ht : P.underlying t = some (.slice e)) (h : DataW.trod enc P w base spare held fuel t cs = some x) :
    cs = [.slice none 0 0] ∨ ∃ (a : Addr) (len cap : Nat), cs = [.slice (some a) len cap] ∧ len ≤ cap ∧ cap ≤ maxLen ∧
      ∀ i, i < len → ∃ cs' : List Value, cs'.length = P.cellsOf e ∧ (∀ j, j < P.cellsOf e → w.cell? (a.add (i * P.cellsOf e + j)) = cs'[j]?) ∧ ∃ n y, DataW.trod enc P w base spare held n e cs' = some y := by
  rcases open_slice ht h with ⟨h0, _⟩ | ⟨a, len, cap, m, n, D, Pl, hcs, _, hl, hm, hmm, _, hi⟩
  · exact .inl h0
  · refine .inr ⟨a, len, cap, hcs, hl, hm, fun i him => ?_⟩
    have him' : i < m := by rw [hmm]; split <;> omega
    obtain ⟨cs', hc, ht'⟩ := hi i him'
    obtain ⟨_, hcl, hat⟩ := World.cells?_some hc
    refine ⟨cs', hcl, fun j hj => ?_, n, _, ht'⟩
    have h2 := hat j hj
    rw [Go.Deep.add_add] at h2
    exact h2
/-- a slice that came in, as a list of its elements -/
theorem gr_of {α : Type} (S : Sh α) (Okk : α → Prop) {t e : TypeId} {fuel : Nat} {cs : List Value} {x : DataW H × List MemPlace} (ht : P.underlying t = some (.slice e)) (hce : P.cellsOf e = S.sz)
    (hel : ∀ (n : Nat) (cs' : List Value) (y : DataW H × List MemPlace), DataW.trod enc P w base spare held n e cs' = some y → ∃ z, Okk z ∧ cs' = S.cf z)
    (h : DataW.trod enc P w base spare held fuel t cs = some x) : ∃ v L, cs = [v] ∧ GR S w v L ∧ ∀ z ∈ L, Okk z := by
  rcases slice_cells ht h with rfl | ⟨a, len, cap, rfl, hl, hcm, hf⟩
  · exact ⟨_, [], rfl, GR.nil w, by simp⟩
  · obtain ⟨l, hlen, hR⟩ := list_of (fun i (y : α) => Okk y ∧ ∀ (k : Nat) u, (S.cf y)[k]? = some u → w.cell? (a.add (i * S.sz + k)) = some u) len (fun i hi => by
      obtain ⟨cs', h1, h2, n, y, h3⟩ := hf i hi
      obtain ⟨z, hz, rfl⟩ := hel n cs' y h3
      refine ⟨z, hz, fun k u hu => ?_⟩
      have hk : k < S.sz := by
        have := (List.getElem?_eq_some_iff.1 hu).1
        rwa [S.len] at this
      have := h2 k (by rw [hce]; exact hk)
      rw [hce] at this
      exact this.trans hu)
    subst hlen
    refine ⟨_, l, rfl, ⟨some a, cap, rfl, hl, hcm, (fun e => by cases e), ?_⟩, fun y hy => ?_⟩
    · cases hl0 : l with
      | nil => exact .inl rfl
      | cons y r =>
        obtain ⟨b, o, s⟩ := a
        obtain ⟨u0, hu0⟩ : ∃ u0, (S.cf y)[0]? = some u0 := ⟨_, List.getElem?_eq_getElem (by rw [S.len]; exact S.pos)⟩
        have hc0 := (hR 0 y (by rw [hl0]; rfl)).2 0 _ hu0
        obtain rfl : s = none := by simpa [Addr.add] using World.cell?_spot hc0
        rw [← hl0]
        refine .inr ⟨b, o, rfl, fun i y hy k u hu => ?_⟩
        have := (hR i y hy).2 k u hu
        rwa [add_plain] at this
    · obtain ⟨i, hi, he⟩ := List.mem_iff_getElem.1 hy
      exact (hR i y (by rw [List.getElem?_eq_getElem hi, he])).1
theorem int_of {t : TypeId} {k : IntKind} {n : Nat} {v : Value} {y : DataW H × List MemPlace} {sp : Nat → Bool} (ht : P.underlying t = some (.int k)) (h : DataW.trod enc P w 0 sp held n t [v] = some y) : ∃ z, v = .int k z ∧ k.min ≤ z ∧ z ≤ k.max := by
  obtain ⟨z, hz, hw⟩ := leaf_int ht h
  obtain ⟨r0, r1⟩ := (Lit.wf_int_iff k _).1 hw
  exact ⟨z, by simpa using hz, r0, r1⟩
end
section
variable {H : Type} {enc : TypeId × Value → H} {w : World} {held : Bool}
theorem c_i64 : Tryz.prog.cellsOf 2 = 1 := by kernel_rfl
theorem c_u32 : Tryz.prog.cellsOf 32 = 1 := by kernel_rfl
theorem c_u8 : Tryz.prog.cellsOf 5 = 1 := by kernel_rfl
theorem c_tiers : Tryz.prog.cellsOf 33 = 1 := by kernel_rfl
theorem c_tier : Tryz.prog.cellsOf 103 = 2 := by kernel_rfl
theorem c_plan : Tryz.prog.cellsOf 35 = 7 := by kernel_rfl
theorem c_seg : Tryz.prog.cellsOf 66 = 2 := by kernel_rfl
/-- a segment of any day -/
def Sg.In (g : Sg) : Prop := W64 g.day ∧ U32 g.plan
theorem seg_of {n : Nat} {cs : List Value} {y : DataW H × List MemPlace} {sp : Nat → Bool} (hm : DataW.trod enc Tryz.prog w 0 sp held n 66 cs = some y) : ∃ g : Sg, g.In ∧ cs = shS.cf g := by
  obtain ⟨hl, hf⟩ := field_trod Tryz.underlying66 hm
  rw [c_seg] at hl
  obtain ⟨v0, v1, rfl⟩ : ∃ v0 v1, cs = [v0, v1] := by
    match cs, hl with
    | [v0, v1], _ => exact ⟨_, _, rfl⟩
  obtain ⟨n0, y0, t0⟩ := hf 0 _ rfl
  obtain ⟨n1, y1, t1⟩ := hf 1 _ rfl
  have t0 : DataW.trod enc Tryz.prog w 0 sp held n0 2 (([v0, v1].drop 0).take (Tryz.prog.cellsOf 2)) = some y0 := t0
  rw [c_i64] at t0
  have t1 : DataW.trod enc Tryz.prog w 0 sp held n1 32 (([v0, v1].drop 1).take (Tryz.prog.cellsOf 32)) = some y1 := t1
  rw [c_u32] at t1
  obtain ⟨z0, rfl, w0⟩ := int_of Tryz.underlying2 t0
  obtain ⟨z1, rfl, w1⟩ := int_of Tryz.underlying32 t1
  exact ⟨⟨z0, z1⟩, ⟨w0, w1⟩, rfl⟩
theorem tier_of {n : Nat} {cs : List Value} {y : DataW H × List MemPlace} {sp : Nat → Bool} (hm : DataW.trod enc Tryz.prog w 0 sp held n 103 cs = some y) : ∃ g : Tr, g.Ok ∧ cs = shT.cf g := by
  obtain ⟨hl, hf⟩ := field_trod Tryz.underlying103 hm
  rw [c_tier] at hl
  obtain ⟨v0, v1, rfl⟩ : ∃ v0 v1, cs = [v0, v1] := by
    match cs, hl with
    | [v0, v1], _ => exact ⟨_, _, rfl⟩
  obtain ⟨n0, y0, t0⟩ := hf 0 _ rfl
  obtain ⟨n1, y1, t1⟩ := hf 1 _ rfl
  have t0 : DataW.trod enc Tryz.prog w 0 sp held n0 2 (([v0, v1].drop 0).take (Tryz.prog.cellsOf 2)) = some y0 := t0
  rw [c_i64] at t0
  have t1 : DataW.trod enc Tryz.prog w 0 sp held n1 2 (([v0, v1].drop 1).take (Tryz.prog.cellsOf 2)) = some y1 := t1
  rw [c_i64] at t1
  obtain ⟨z0, rfl, w0⟩ := int_of Tryz.underlying2 t0
  obtain ⟨z1, rfl, w1⟩ := int_of Tryz.underlying2 t1
  exact ⟨⟨z0, z1⟩, ⟨w0, w1⟩, rfl⟩
theorem uTiers : Tryz.prog.underlying 33 = some (.slice 103) := by kernel_rfl
theorem uSegs : Tryz.prog.underlying 54 = some (.slice 66) := by kernel_rfl
theorem segs_in {r : Reach} {b0 : Nat} {v : Value} {d : DataW H} {ps : List MemPlace} {sp : Nat → Bool} (hv : Value.okWide Tryz.prog w r b0 54 v) (h : DataW.Trod enc Tryz.prog w 0 sp held 54 v d ps) : ∃ L : List Sg, GR shS w v L ∧ ∀ g ∈ L, g.In := by
  obtain ⟨a, len, cap, rfl⟩ := okWide_slice uSegs hv
  obtain ⟨m, hm⟩ := h
  obtain ⟨v', L, hc, hg, hk⟩ := gr_of shS Sg.In uSegs c_seg (fun n cs y h => seg_of h) hm
  simp [Value.cells] at hc
  subst hc
  exact ⟨L, hg, hk⟩
theorem i64_in {r : Reach} {b0 : Nat} {v : Value} {d : DataW H} {ps : List MemPlace} {sp : Nat → Bool} (hv : Value.okWide Tryz.prog w r b0 2 v) (h : DataW.Trod enc Tryz.prog w 0 sp held 2 v d ps) : ∃ n, v = .int .i64 n ∧ W64 n := by
  obtain ⟨n, rfl⟩ := okWide_int Tryz.underlying2 hv
  obtain ⟨m, hm⟩ := h
  obtain ⟨z, hz, w0⟩ := int_of Tryz.underlying2 hm
  cases hz
  exact ⟨_, rfl, w0⟩
theorem u32_in {r : Reach} {b0 : Nat} {v : Value} {d : DataW H} {ps : List MemPlace} {sp : Nat → Bool} (hv : Value.okWide Tryz.prog w r b0 32 v) (h : DataW.Trod enc Tryz.prog w 0 sp held 32 v d ps) : ∃ n, v = .int .u32 n ∧ U32 n := by
  obtain ⟨n, rfl⟩ := okWide_int Tryz.underlying32 hv
  obtain ⟨m, hm⟩ := h
  obtain ⟨z, hz, w0⟩ := int_of Tryz.underlying32 hm
  cases hz
  exact ⟨_, rfl, w0⟩
/-! ### acts -/
structure A21 where
  doo : Int
  P : Pl
  ta : Option Addr
  tc : Nat
  ten : Int
  id : Int
  shift : Int
  n : Int
def A21.cells (x : A21) : List Value := [.int .u8 x.doo, .int .u32 x.P.id, .int .i64 x.P.daily, .int .i64 x.P.monthly, .int .i64 x.P.over, .int .i64 x.P.roll, .int .i64 x.P.base, .slice x.ta x.P.tiers.length x.tc, .int .u32 x.ten, .int .u32 x.id, .int .i64 x.shift, .int .i64 x.n]
def shA : Sh A21 := ⟨12, A21.cells, fun _ => rfl, by decide, fun x u hu => by
  simp only [A21.cells, List.mem_cons, List.not_mem_nil, or_false] at hu
  rcases hu with rfl | rfl | rfl | rfl | rfl | rfl | rfl | rfl | rfl | rfl | rfl | rfl <;> rfl⟩
structure A21.Ok (w : World) (x : A21) : Prop where
  doo : 0 ≤ x.doo ∧ x.doo ≤ 255
  P : x.P.Ok
  tiers : GR shT w (.slice x.ta x.P.tiers.length x.tc) x.P.tiers
  ten : U32 x.ten
  id : U32 x.id
  shift : W64 x.shift
  n : W64 x.n
theorem A21.Ok.below {w w' : World} {x : A21} (h : x.Ok w) (hb : Below w.heap.size w w') : x.Ok w' := ⟨h.doo, h.P, h.tiers.below hb, h.ten, h.id, h.shift, h.n⟩
/-- a list of acts that came in -/
def AS21 (w : World) (v : Value) (l : List A21) : Prop := GR shA w v l ∧ ∀ x ∈ l, x.Ok w
theorem AS21.below {w w' : World} {v : Value} {l : List A21} (h : AS21 w v l) (hb : Below w.heap.size w w') : AS21 w' v l := ⟨h.1.below hb, fun x hx => (h.2 x hx).below hb⟩
theorem c_act : Tryz.prog.cellsOf 37 = 12 := by kernel_rfl
theorem uActs21 : Tryz.prog.underlying 22 = some (.slice 37) := by kernel_rfl
theorem plan_of {n : Nat} {cs : List Value} {y : DataW H × List MemPlace} {sp : Nat → Bool} (hm : DataW.trod enc Tryz.prog w 0 sp held n 35 cs = some y) : ∃ (p : Pl) (ta : Option Addr) (tc : Nat), p.Ok ∧ cs = p.cells (.slice ta p.tiers.length tc) ∧ GR shT w (.slice ta p.tiers.length tc) p.tiers := by
  obtain ⟨hl, hf⟩ := field_trod Tryz.underlying35 hm
  rw [c_plan] at hl
  obtain ⟨v0, v1, v2, v3, v4, v5, v6, rfl⟩ : ∃ v0 v1 v2 v3 v4 v5 v6, cs = [v0, v1, v2, v3, v4, v5, v6] := by
    match cs, hl with
    | [v0, v1, v2, v3, v4, v5, v6], _ => exact ⟨_, _, _, _, _, _, _, rfl⟩
  obtain ⟨n0, y0, t0⟩ := hf 0 _ rfl
  obtain ⟨n1, y1, t1⟩ := hf 1 _ rfl
  obtain ⟨n2, y2, t2⟩ := hf 2 _ rfl
  obtain ⟨n3, y3, t3⟩ := hf 3 _ rfl
  obtain ⟨n4, y4, t4⟩ := hf 4 _ rfl
  obtain ⟨n5, y5, t5⟩ := hf 5 _ rfl
  obtain ⟨n6, y6, t6⟩ := hf 6 _ rfl
  have t0 : DataW.trod enc Tryz.prog w 0 sp held n0 32 (([v0, v1, v2, v3, v4, v5, v6].drop 0).take (Tryz.prog.cellsOf 32)) = some y0 := t0
  rw [c_u32] at t0
  have t1 : DataW.trod enc Tryz.prog w 0 sp held n1 2 (([v0, v1, v2, v3, v4, v5, v6].drop 1).take (Tryz.prog.cellsOf 2)) = some y1 := t1
  rw [c_i64] at t1
  have t2 : DataW.trod enc Tryz.prog w 0 sp held n2 2 (([v0, v1, v2, v3, v4, v5, v6].drop 2).take (Tryz.prog.cellsOf 2)) = some y2 := t2
  rw [c_i64] at t2
  have t3 : DataW.trod enc Tryz.prog w 0 sp held n3 2 (([v0, v1, v2, v3, v4, v5, v6].drop 3).take (Tryz.prog.cellsOf 2)) = some y3 := t3
  rw [c_i64] at t3
  have t4 : DataW.trod enc Tryz.prog w 0 sp held n4 2 (([v0, v1, v2, v3, v4, v5, v6].drop 4).take (Tryz.prog.cellsOf 2)) = some y4 := t4
  rw [c_i64] at t4
  have t5 : DataW.trod enc Tryz.prog w 0 sp held n5 2 (([v0, v1, v2, v3, v4, v5, v6].drop 5).take (Tryz.prog.cellsOf 2)) = some y5 := t5
  rw [c_i64] at t5
  have t6 : DataW.trod enc Tryz.prog w 0 sp held n6 33 (([v0, v1, v2, v3, v4, v5, v6].drop 6).take (Tryz.prog.cellsOf 33)) = some y6 := t6
  rw [c_tiers] at t6
  obtain ⟨z0, rfl, w0⟩ := int_of Tryz.underlying32 t0
  obtain ⟨z1, rfl, w1⟩ := int_of Tryz.underlying2 t1
  obtain ⟨z2, rfl, w2⟩ := int_of Tryz.underlying2 t2
  obtain ⟨z3, rfl, w3⟩ := int_of Tryz.underlying2 t3
  obtain ⟨z4, rfl, w4⟩ := int_of Tryz.underlying2 t4
  obtain ⟨z5, rfl, w5⟩ := int_of Tryz.underlying2 t5
  obtain ⟨v', L, hc, hg, hk⟩ := gr_of shT Tr.Ok uTiers c_tier (fun n cs y h => tier_of h) t6
  obtain ⟨ta, tc, rfl, _⟩ := hg.shape
  have hc : [v6] = [Value.slice ta L.length tc] := hc
  injection hc with hc _
  subst hc
  exact ⟨⟨z0, z1, z2, z3, z4, z5, L⟩, ta, tc, ⟨w0, w1, w2, w3, w4, w5, hk⟩, rfl, hg⟩
theorem act21_of {n : Nat} {cs : List Value} {y : DataW H × List MemPlace} {sp : Nat → Bool} (hm : DataW.trod enc Tryz.prog w 0 sp held n 37 cs = some y) : ∃ x : A21, x.Ok w ∧ cs = shA.cf x := by
  obtain ⟨hl, hf⟩ := field_trod Tryz.underlying37 hm
  rw [c_act] at hl
  obtain ⟨v0, v1, v2, v3, v4, v5, v6, v7, v8, v9, v10, v11, rfl⟩ : ∃ v0 v1 v2 v3 v4 v5 v6 v7 v8 v9 v10 v11, cs = [v0, v1, v2, v3, v4, v5, v6, v7, v8, v9, v10, v11] := by
    match cs, hl with
    | [v0, v1, v2, v3, v4, v5, v6, v7, v8, v9, v10, v11], _ => exact ⟨_, _, _, _, _, _, _, _, _, _, _, _, rfl⟩
  obtain ⟨n0, y0, t0⟩ := hf 0 _ rfl
  obtain ⟨n1, y1, t1⟩ := hf 1 _ rfl
  obtain ⟨n2, y2, t2⟩ := hf 2 _ rfl
  obtain ⟨n3, y3, t3⟩ := hf 3 _ rfl
  obtain ⟨n4, y4, t4⟩ := hf 4 _ rfl
  obtain ⟨n5, y5, t5⟩ := hf 5 _ rfl
  have t0 : DataW.trod enc Tryz.prog w 0 sp held n0 5 (([v0, v1, v2, v3, v4, v5, v6, v7, v8, v9, v10, v11].drop 0).take (Tryz.prog.cellsOf 5)) = some y0 := t0
  rw [c_u8] at t0
  have t1 : DataW.trod enc Tryz.prog w 0 sp held n1 35 (([v0, v1, v2, v3, v4, v5, v6, v7, v8, v9, v10, v11].drop 1).take (Tryz.prog.cellsOf 35)) = some y1 := t1
  rw [c_plan] at t1
  have t2 : DataW.trod enc Tryz.prog w 0 sp held n2 32 (([v0, v1, v2, v3, v4, v5, v6, v7, v8, v9, v10, v11].drop 8).take (Tryz.prog.cellsOf 32)) = some y2 := t2
  rw [c_u32] at t2
  have t3 : DataW.trod enc Tryz.prog w 0 sp held n3 32 (([v0, v1, v2, v3, v4, v5, v6, v7, v8, v9, v10, v11].drop 9).take (Tryz.prog.cellsOf 32)) = some y3 := t3
  rw [c_u32] at t3
  have t4 : DataW.trod enc Tryz.prog w 0 sp held n4 2 (([v0, v1, v2, v3, v4, v5, v6, v7, v8, v9, v10, v11].drop 10).take (Tryz.prog.cellsOf 2)) = some y4 := t4
  rw [c_i64] at t4
  have t5 : DataW.trod enc Tryz.prog w 0 sp held n5 2 (([v0, v1, v2, v3, v4, v5, v6, v7, v8, v9, v10, v11].drop 11).take (Tryz.prog.cellsOf 2)) = some y5 := t5
  rw [c_i64] at t5
  obtain ⟨z0, rfl, w0⟩ := int_of Tryz.underlying5 t0
  obtain ⟨p, ta, tc, hp, hc, hg⟩ := plan_of t1
  obtain ⟨z2, rfl, w2⟩ := int_of Tryz.underlying32 t2
  obtain ⟨z3, rfl, w3⟩ := int_of Tryz.underlying32 t3
  obtain ⟨z4, rfl, w4⟩ := int_of Tryz.underlying2 t4
  obtain ⟨z5, rfl, w5⟩ := int_of Tryz.underlying2 t5
  have hc : [v1, v2, v3, v4, v5, v6, v7] = p.cells (.slice ta p.tiers.length tc) := hc
  unfold Pl.cells at hc
  injection hc with e1 hc
  injection hc with e2 hc
  injection hc with e3 hc
  injection hc with e4 hc
  injection hc with e5 hc
  injection hc with e6 hc
  injection hc with e7 _
  subst e1; subst e2; subst e3; subst e4; subst e5; subst e6; subst e7
  exact ⟨⟨z0, p, ta, tc, z2, z3, z4, z5⟩, ⟨w0, hp, hg, w2, w3, w4, w5⟩, rfl⟩
theorem acts21_in {r : Reach} {b0 : Nat} {v : Value} {d : DataW H} {ps : List MemPlace} {sp : Nat → Bool} (hv : Value.okWide Tryz.prog w r b0 22 v) (h : DataW.Trod enc Tryz.prog w 0 sp held 22 v d ps) : ∃ l, AS21 w v l := by
  obtain ⟨a, len, cap, rfl⟩ := okWide_slice uActs21 hv
  obtain ⟨m, hm⟩ := h
  obtain ⟨v', L, hc, hg, hk⟩ := gr_of shA (fun x => A21.Ok w x) uActs21 c_act (fun n cs y h => act21_of h) hm
  simp [Value.cells] at hc
  subst hc
  exact ⟨L, hg, hk⟩
theorem act21_in {r : Reach} {b0 : Nat} {v : Value} {d : DataW H} {ps : List MemPlace} {sp : Nat → Bool} (hv : Value.okWide Tryz.prog w r b0 37 v) (h : DataW.Trod enc Tryz.prog w 0 sp held 37 v d ps) : ∃ x : A21, v = .agg x.cells.toArray ∧ x.Ok w := by
  obtain ⟨cs, rfl, hsz⟩ := okWide_struct Tryz.underlying37 hv
  obtain ⟨m, hm⟩ := h
  obtain ⟨x, hx, hc⟩ := act21_of hm
  obtain ⟨cl⟩ := cs
  have hc : cl = x.cells := hc
  subst hc
  exact ⟨x, rfl, hx⟩
end
end Go.Proofs.YtidppalhjknlfaaGreatDoor
namespace Go.Proofs.YtidppalhjknlfaaGreatDoor
set_option linter.unusedVariables false
set_option linter.unusedSimpArgs false
open Go.RowKit
theorem rvalid_any (y m : Int) (h1 : 1 ≤ y) (h2 : y ≤ 9999) (h3 : 1 ≤ m) (h4 : m ≤ 12) (w : World) :
    Calls Tryz.prog 82 #[.agg #[.int .i64 y, .int .i64 m, .int .i64 1]] w fun e w' => e = .returned (.bool true) ∧ Below w.heap.size w w' := by
  have hl := Cal.len_bd (12 * y + m - 1)
  have d1 : decide (0 < y) = true := decide_eq_true (by omega)
  have d2 : decide (y < 10000) = true := decide_eq_true (by omega)
  have d3 : decide (0 < m) = true := decide_eq_true (by omega)
  have d4 : decide (m < 13) = true := decide_eq_true (by omega)
  have d6 : decide (1 ≤ Cal.len (12 * y + m - 1)) = true := decide_eq_true (by omega)
  go_enter Tryz.func82, Tryz.ntmps82
  go_wp2_with fail
  go_quiet ((first
    | (go_at_call 62; exact Calls.quiet_of_same (long_any _ _ (by omega) (by omega) (by omega) (by omega) _))))
  go_wp2
  go_ret
  exact ⟨rfl, below_drewN ((Below.refl _ _).alloc (Nat.le_refl _) _) _⟩
set_option maxHeartbeats 1000000 in
theorem rdate_yes (y m : Int) (h1 : 1 ≤ y) (h2 : y ≤ 9999) (h3 : 1 ≤ m) (h4 : m ≤ 12) (w : World) :
    Calls Tryz.prog 67 #[.agg #[.int .i64 y, .int .i64 m, .int .i64 1]] w fun e w' => e = .returned (.tuple #[.int .i64 (Cal.first (12 * y + m - 1)), .int .i64 0]) ∧ Below w.heap.size w w' := by
  go_enter Tryz.func67, Tryz.ntmps67
  go_wp2_with fail
  refine (rvalid_any y m h1 h2 h3 h4 _).mono ?_
  rintro e w1 ⟨rfl, hb⟩
  have HB := Lib.hid hb
  obtain ⟨hc, hf⟩ := bcell hb
  have hz : w.heap.size < w1.heap.size := by have := hb.size; simp at this; omega
  clear hb
  go_wp2_with fail
  have hF := first_bd (12 * y + m - 1) (by omega) (by omega)
  have hG := Cal.first_year y
  have hGb := Cal.years_bd (y := y) (by omega) (by omega)
  have HG := Lib.hid hG
  clear hG
  obtain ⟨F, hFe⟩ : ∃ F, F = Cal.first (12 * y + m - 1) := ⟨_, rfl⟩
  have HF := Lib.hid hFe
  rw [← hFe] at hF
  have e0 : Hid (Ending.returned (.tuple #[.int .i64 (Cal.first (12 * y + m - 1)), .int .i64 0]) = Ending.returned (.tuple #[.int .i64 F, .int .i64 0])) := Lib.hid (by rw [hFe])
  clear hFe
  go_loop [4, 5] (fun a b => ∃ k : Int, 1 ≤ k ∧ k ≤ m ∧ b = .int .i64 k ∧ a = .int .i64 (Cal.first (12 * y + k - 1) - Cal.first (12 * y))) (fun _ b => (13 - intOf b).toNat)
  case atStart => exact ⟨1, by omega, by omega, rfl, by rw [show 12 * y + 1 - 1 = 12 * y by omega]; simp⟩
  case round =>
    obtain ⟨k, hk1, hk2, rfl, rfl⟩ := hrel
    have hf1 := Cal.first_succ (12 * y + k - 1)
    have hlb := Cal.len_bd (12 * y + k - 1)
    have hfb := first_bd (12 * y + k - 1) (by omega) (by omega)
    have hfc := first_bd (12 * y) (by omega) (by omega)
    have HF1 := Lib.hid hf1
    clear hf1
    by_cases hkm : k < m
    · go_wp2_with (go_at_call 62; refine (long_any _ _ (by omega) (by omega) (by omega) (by omega) _).mono ?_; rintro e w' ⟨rfl, rfl⟩)
      go_round
      case rel => exact ⟨k + 1, by omega, by omega, by go_num, by
                have := HF1.out
                rw [show 12 * y + (k + 1) - 1 = 12 * y + k - 1 + 1 by omega]
                go_num⟩
      case measure => simp [intOf]; omega
    · have hke : k = m := by omega
      subst hke
      go_wp2
      have hfk : Hid (Cal.first (12 * y + k - 1) = F) := Lib.hid HF.out.symm
      rw [hfk.out]
      go_loop [4, 6] (fun a b => ∃ z : Int, 1970 ≤ z ∧ (z ≤ y ∨ z = 1970) ∧ b = .int .i64 z ∧ a = .int .i64 (F - Cal.first (12 * y) + (Cal.years z - 719162))) (fun _ b => (10000 - intOf b).toNat)
      case atStart => exact ⟨1970, by omega, by omega, rfl, by simp [Cal.years]⟩
      case round =>
        obtain ⟨z, hz1, hz2, rfl, rfl⟩ := hrel
        have hyb := Cal.years_bd (y := z) (by omega) (by omega)
        have hyb2 := Cal.years_bd (y := z + 1) (by omega) (by omega)
        have hs := Cal.years_succ z
        have hl := Cal.l01_bd z
        have HS := Lib.hid hs
        clear hs
        by_cases hlt : z < y
        · go_wp2_with (go_at_call 61; refine (days_any _ (by omega) (by omega) _).mono ?_; rintro e w' ⟨rfl, rfl⟩)
          go_round
          case rel => exact ⟨z + 1, by omega, by omega, by go_num, by have := HS.out; go_num⟩
          case measure => simp [intOf]; omega
        · go_wp2
          clear HS hyb2 hl
          go_loop [4, 6] (fun a b => ∃ u : Int, y ≤ u ∧ (u ≤ 1970 ∨ u = y) ∧ b = .int .i64 u ∧ a = .int .i64 (F - Cal.first (12 * y) + (Cal.years u - 719162))) (fun _ b => (intOf b).toNat)
          case atStart => exact ⟨z, by omega, by omega, rfl, rfl⟩
          case round =>
            clear hz1 hz2 hyb hlt
            obtain ⟨u, hu1, hu2, rfl, rfl⟩ := hrel
            have hyb := Cal.years_bd (y := u) (by omega) (by omega)
            have hyb2 := Cal.years_bd (y := u - 1) (by omega) (by omega)
            have hs := Cal.years_succ (u - 1)
            rw [show u - 1 + 1 = u by omega] at hs
            have hl := Cal.l01_bd (u - 1)
            have HS := Lib.hid hs
            clear hs
            by_cases hlt : y < u
            · go_wp2_with (go_at_call 61; refine (days_any _ (by omega) (by omega) _).mono ?_; rintro e w' ⟨rfl, rfl⟩)
              go_round
              case rel => exact ⟨u - 1, by omega, by omega, by go_num, by have := HS.out; go_num⟩
              case measure => simp [intOf]; omega
            · have hue : u = y := by omega
              subst hue
              go_wp2
              go_ret2
              exact ⟨by rw [e0.out]; have := HG.out; rw [this, show F - (Cal.years u - 719162) + (Cal.years u - 719162) = F by omega]; rfl, ((Below.refl _ _).alloc (Nat.le_refl _) _).trans (HB.out.mono (by simp))⟩
end Go.Proofs.YtidppalhjknlfaaGreatDoor
