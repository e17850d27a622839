/- Acts of quitrentlaw21, segments, that came in, in the walks' words. -/
import Derived.Test.YtidppalhjknlfaaDoorQCy1
import Derived.Test.YtidppalhjknlfaaDoorQMRow
import Derived.Test.YtidppalhjknlfaaDoorQMMake
import Derived.DataShut
namespace Go.Proofs.YtidppalhjknlfaaDoor
open Go.ChangeShapes Go.WideShapes Go.Deep Go.RowKit
set_option linter.unusedVariables false
set_option linter.unusedSimpArgs false
set_option maxRecDepth 100000
section
variable {H : Type} {enc : TypeId × Value → H} {P : Program} {w : World} {base : Nat} {spare : Nat → Bool} {held : Bool}
/-- each element's cells, and what they read as -/
theorem slice_cells {t e : TypeId} {fuel : Nat} {cs : List Value} {x : DataW H × List MemPlace} (ht : P.underlying t = some (.slice e)) (h : DataW.trod enc P w base spare held fuel t cs = some x) :
    cs = [.slice none 0 0] ∨ ∃ (a : Addr) (len cap : Nat), cs = [.slice (some a) len cap] ∧ len ≤ cap ∧ cap ≤ maxLen ∧
      ∀ i, i < len → ∃ cs' : List Value, cs'.length = P.cellsOf e ∧ (∀ j, j < P.cellsOf e → w.cell? (a.add (i * P.cellsOf e + j)) = cs'[j]?) ∧ ∃ n y, DataW.trod enc P w base spare held n e cs' = some y := by
  rcases open_slice ht h with ⟨h0, _⟩ | ⟨a, len, cap, m, n, D, Pl, hcs, _, hl, hm, hmm, _, hi⟩
  · exact .inl h0
  · refine .inr ⟨a, len, cap, hcs, hl, hm, fun i him => ?_⟩
    have him' : i < m := by rw [hmm]; split <;> omega
    obtain ⟨cs', hc, ht'⟩ := hi i him'
    obtain ⟨_, hcl, hat⟩ := World.cells?_some hc
    refine ⟨cs', hcl, fun j hj => ?_, n, _, ht'⟩
    have h2 := hat j hj
    rw [Go.Deep.add_add] at h2
    exact h2
/-- a slice that came in, as a list of its elements -/
theorem gr_of {α : Type} (S : Sh α) (Okk : α → Prop) {t e : TypeId} {fuel : Nat} {cs : List Value} {x : DataW H × List MemPlace} (ht : P.underlying t = some (.slice e)) (hce : P.cellsOf e = S.sz)
    (hel : ∀ (n : Nat) (cs' : List Value) (y : DataW H × List MemPlace), DataW.trod enc P w base spare held n e cs' = some y → ∃ z, Okk z ∧ cs' = S.cf z)
    (h : DataW.trod enc P w base spare held fuel t cs = some x) : ∃ v L, cs = [v] ∧ GR S w v L ∧ ∀ z ∈ L, Okk z := by
  rcases slice_cells ht h with rfl | ⟨a, len, cap, rfl, hl, hcm, hf⟩
  · exact ⟨_, [], rfl, GR.nil w, by simp⟩
  · obtain ⟨l, hlen, hR⟩ := list_of (fun i (y : α) => Okk y ∧ ∀ (k : Nat) u, (S.cf y)[k]? = some u → w.cell? (a.add (i * S.sz + k)) = some u) len (fun i hi => by
      obtain ⟨cs', h1, h2, n, y, h3⟩ := hf i hi
      obtain ⟨z, hz, rfl⟩ := hel n cs' y h3
      refine ⟨z, hz, fun k u hu => ?_⟩
      have hk : k < S.sz := by
        have := (List.getElem?_eq_some_iff.1 hu).1
        rwa [S.len] at this
      have := h2 k (by rw [hce]; exact hk)
      rw [hce] at this
      exact this.trans hu)
    subst hlen
    refine ⟨_, l, rfl, ⟨some a, cap, rfl, hl, hcm, (fun e => by cases e), ?_⟩, fun y hy => ?_⟩
    · cases hl0 : l with
      | nil => exact .inl rfl
      | cons y r =>
        obtain ⟨b, o, s⟩ := a
        obtain ⟨u0, hu0⟩ : ∃ u0, (S.cf y)[0]? = some u0 := ⟨_, List.getElem?_eq_getElem (by rw [S.len]; exact S.pos)⟩
        have hc0 := (hR 0 y (by rw [hl0]; rfl)).2 0 _ hu0
        obtain rfl : s = none := by simpa [Addr.add] using World.cell?_spot hc0
        rw [← hl0]
        refine .inr ⟨b, o, rfl, fun i y hy k u hu => ?_⟩
        have := (hR i y hy).2 k u hu
        rwa [add_plain] at this
    · obtain ⟨i, hi, he⟩ := List.mem_iff_getElem.1 hy
      exact (hR i y (by rw [List.getElem?_eq_getElem hi, he])).1
theorem int_of {t : TypeId} {k : IntKind} {n : Nat} {v : Value} {y : DataW H × List MemPlace} {sp : Nat → Bool} (ht : P.underlying t = some (.int k)) (h : DataW.trod enc P w 0 sp held n t [v] = some y) : ∃ z, v = .int k z ∧ k.min ≤ z ∧ z ≤ k.max := by
  obtain ⟨z, hz, hw⟩ := leaf_int ht h
  obtain ⟨r0, r1⟩ := (Lit.wf_int_iff k _).1 hw
  exact ⟨z, by simpa using hz, r0, r1⟩
end
section
variable {H : Type} {enc : TypeId × Value → H} {w : World} {held : Bool}
theorem c_i64 : Tryd.prog.cellsOf 2 = 1 := by kernel_rfl
theorem c_u32 : Tryd.prog.cellsOf 23 = 1 := by kernel_rfl
theorem c_u8 : Tryd.prog.cellsOf 5 = 1 := by kernel_rfl
theorem c_tiers : Tryd.prog.cellsOf 46 = 1 := by kernel_rfl
theorem c_tier : Tryd.prog.cellsOf 84 = 2 := by kernel_rfl
theorem c_plan : Tryd.prog.cellsOf 48 = 7 := by kernel_rfl
theorem c_seg : Tryd.prog.cellsOf 25 = 2 := by kernel_rfl
/-- a segment of any day -/
def Sg.In (g : Sg) : Prop := W64 g.day ∧ U32 g.plan
theorem seg_of {n : Nat} {cs : List Value} {y : DataW H × List MemPlace} {sp : Nat → Bool} (hm : DataW.trod enc Tryd.prog w 0 sp held n 25 cs = some y) : ∃ g : Sg, g.In ∧ cs = shS.cf g := by
  obtain ⟨hl, hf⟩ := field_trod Tryd.underlying25 hm
  rw [c_seg] at hl
  obtain ⟨v0, v1, rfl⟩ : ∃ v0 v1, cs = [v0, v1] := by
    match cs, hl with
    | [v0, v1], _ => exact ⟨_, _, rfl⟩
  obtain ⟨n0, y0, t0⟩ := hf 0 _ rfl
  obtain ⟨n1, y1, t1⟩ := hf 1 _ rfl
  have t0 : DataW.trod enc Tryd.prog w 0 sp held n0 2 (([v0, v1].drop 0).take (Tryd.prog.cellsOf 2)) = some y0 := t0
  rw [c_i64] at t0
  have t1 : DataW.trod enc Tryd.prog w 0 sp held n1 23 (([v0, v1].drop 1).take (Tryd.prog.cellsOf 23)) = some y1 := t1
  rw [c_u32] at t1
  obtain ⟨z0, rfl, w0⟩ := int_of Tryd.underlying2 t0
  obtain ⟨z1, rfl, w1⟩ := int_of Tryd.underlying23 t1
  exact ⟨⟨z0, z1⟩, ⟨w0, w1⟩, rfl⟩
theorem tier_of {n : Nat} {cs : List Value} {y : DataW H × List MemPlace} {sp : Nat → Bool} (hm : DataW.trod enc Tryd.prog w 0 sp held n 84 cs = some y) : ∃ g : Tr, g.Ok ∧ cs = shT.cf g := by
  obtain ⟨hl, hf⟩ := field_trod Tryd.underlying84 hm
  rw [c_tier] at hl
  obtain ⟨v0, v1, rfl⟩ : ∃ v0 v1, cs = [v0, v1] := by
    match cs, hl with
    | [v0, v1], _ => exact ⟨_, _, rfl⟩
  obtain ⟨n0, y0, t0⟩ := hf 0 _ rfl
  obtain ⟨n1, y1, t1⟩ := hf 1 _ rfl
  have t0 : DataW.trod enc Tryd.prog w 0 sp held n0 2 (([v0, v1].drop 0).take (Tryd.prog.cellsOf 2)) = some y0 := t0
  rw [c_i64] at t0
  have t1 : DataW.trod enc Tryd.prog w 0 sp held n1 2 (([v0, v1].drop 1).take (Tryd.prog.cellsOf 2)) = some y1 := t1
  rw [c_i64] at t1
  obtain ⟨z0, rfl, w0⟩ := int_of Tryd.underlying2 t0
  obtain ⟨z1, rfl, w1⟩ := int_of Tryd.underlying2 t1
  exact ⟨⟨z0, z1⟩, ⟨w0, w1⟩, rfl⟩
theorem uTiers : Tryd.prog.underlying 46 = some (.slice 84) := by kernel_rfl
theorem uSegs : Tryd.prog.underlying 22 = some (.slice 25) := by kernel_rfl
theorem segs_in {r : Reach} {b0 : Nat} {v : Value} {d : DataW H} {ps : List MemPlace} {sp : Nat → Bool} (hv : Value.okWide Tryd.prog w r b0 22 v) (h : DataW.Trod enc Tryd.prog w 0 sp held 22 v d ps) : ∃ L : List Sg, GR shS w v L ∧ ∀ g ∈ L, g.In := by
  obtain ⟨a, len, cap, rfl⟩ := okWide_slice uSegs hv
  obtain ⟨m, hm⟩ := h
  obtain ⟨v', L, hc, hg, hk⟩ := gr_of shS Sg.In uSegs c_seg (fun n cs y h => seg_of h) hm
  simp [Value.cells] at hc
  subst hc
  exact ⟨L, hg, hk⟩
theorem i64_in {r : Reach} {b0 : Nat} {v : Value} {d : DataW H} {ps : List MemPlace} {sp : Nat → Bool} (hv : Value.okWide Tryd.prog w r b0 2 v) (h : DataW.Trod enc Tryd.prog w 0 sp held 2 v d ps) : ∃ n, v = .int .i64 n ∧ W64 n := by
  obtain ⟨n, rfl⟩ := okWide_int Tryd.underlying2 hv
  obtain ⟨m, hm⟩ := h
  obtain ⟨z, hz, w0⟩ := int_of Tryd.underlying2 hm
  cases hz
  exact ⟨_, rfl, w0⟩
theorem u32_in {r : Reach} {b0 : Nat} {v : Value} {d : DataW H} {ps : List MemPlace} {sp : Nat → Bool} (hv : Value.okWide Tryd.prog w r b0 23 v) (h : DataW.Trod enc Tryd.prog w 0 sp held 23 v d ps) : ∃ n, v = .int .u32 n ∧ U32 n := by
  obtain ⟨n, rfl⟩ := okWide_int Tryd.underlying23 hv
  obtain ⟨m, hm⟩ := h
  obtain ⟨z, hz, w0⟩ := int_of Tryd.underlying23 hm
  cases hz
  exact ⟨_, rfl, w0⟩
/-! ### acts -/
structure A21 where
  doo : Int
  P : Pl
  ta : Option Addr
  tc : Nat
  ten : Int
  id : Int
  shift : Int
  n : Int
def A21.cells (x : A21) : List Value := [.int .u8 x.doo, .int .u32 x.P.id, .int .i64 x.P.daily, .int .i64 x.P.monthly, .int .i64 x.P.over, .int .i64 x.P.roll, .int .i64 x.P.base, .slice x.ta x.P.tiers.length x.tc, .int .u32 x.ten, .int .u32 x.id, .int .i64 x.shift, .int .i64 x.n]
def shA : Sh A21 := ⟨12, A21.cells, fun _ => rfl, by decide, fun x u hu => by
  simp only [A21.cells, List.mem_cons, List.not_mem_nil, or_false] at hu
  rcases hu with rfl | rfl | rfl | rfl | rfl | rfl | rfl | rfl | rfl | rfl | rfl | rfl <;> rfl⟩
structure A21.Ok (w : World) (x : A21) : Prop where
  doo : 0 ≤ x.doo ∧ x.doo ≤ 255
  P : x.P.Ok
  tiers : GR shT w (.slice x.ta x.P.tiers.length x.tc) x.P.tiers
  ten : U32 x.ten
  id : U32 x.id
  shift : W64 x.shift
  n : W64 x.n
theorem A21.Ok.below {w w' : World} {x : A21} (h : x.Ok w) (hb : Below w.heap.size w w') : x.Ok w' := ⟨h.doo, h.P, h.tiers.below hb, h.ten, h.id, h.shift, h.n⟩
/-- a list of acts that came in -/
def AS21 (w : World) (v : Value) (l : List A21) : Prop := GR shA w v l ∧ ∀ x ∈ l, x.Ok w
theorem AS21.below {w w' : World} {v : Value} {l : List A21} (h : AS21 w v l) (hb : Below w.heap.size w w') : AS21 w' v l := ⟨h.1.below hb, fun x hx => (h.2 x hx).below hb⟩
theorem c_act : Tryd.prog.cellsOf 50 = 12 := by kernel_rfl
theorem uActs21 : Tryd.prog.underlying 30 = some (.slice 50) := by kernel_rfl
theorem plan_of {n : Nat} {cs : List Value} {y : DataW H × List MemPlace} {sp : Nat → Bool} (hm : DataW.trod enc Tryd.prog w 0 sp held n 48 cs = some y) : ∃ (p : Pl) (ta : Option Addr) (tc : Nat), p.Ok ∧ cs = p.cells (.slice ta p.tiers.length tc) ∧ GR shT w (.slice ta p.tiers.length tc) p.tiers := by
  obtain ⟨hl, hf⟩ := field_trod Tryd.underlying48 hm
  rw [c_plan] at hl
  obtain ⟨v0, v1, v2, v3, v4, v5, v6, rfl⟩ : ∃ v0 v1 v2 v3 v4 v5 v6, cs = [v0, v1, v2, v3, v4, v5, v6] := by
    match cs, hl with
    | [v0, v1, v2, v3, v4, v5, v6], _ => exact ⟨_, _, _, _, _, _, _, rfl⟩
  obtain ⟨n0, y0, t0⟩ := hf 0 _ rfl
  obtain ⟨n1, y1, t1⟩ := hf 1 _ rfl
  obtain ⟨n2, y2, t2⟩ := hf 2 _ rfl
  obtain ⟨n3, y3, t3⟩ := hf 3 _ rfl
  obtain ⟨n4, y4, t4⟩ := hf 4 _ rfl
  obtain ⟨n5, y5, t5⟩ := hf 5 _ rfl
  obtain ⟨n6, y6, t6⟩ := hf 6 _ rfl
  have t0 : DataW.trod enc Tryd.prog w 0 sp held n0 23 (([v0, v1, v2, v3, v4, v5, v6].drop 0).take (Tryd.prog.cellsOf 23)) = some y0 := t0
  rw [c_u32] at t0
  have t1 : DataW.trod enc Tryd.prog w 0 sp held n1 2 (([v0, v1, v2, v3, v4, v5, v6].drop 1).take (Tryd.prog.cellsOf 2)) = some y1 := t1
  rw [c_i64] at t1
  have t2 : DataW.trod enc Tryd.prog w 0 sp held n2 2 (([v0, v1, v2, v3, v4, v5, v6].drop 2).take (Tryd.prog.cellsOf 2)) = some y2 := t2
  rw [c_i64] at t2
  have t3 : DataW.trod enc Tryd.prog w 0 sp held n3 2 (([v0, v1, v2, v3, v4, v5, v6].drop 3).take (Tryd.prog.cellsOf 2)) = some y3 := t3
  rw [c_i64] at t3
  have t4 : DataW.trod enc Tryd.prog w 0 sp held n4 2 (([v0, v1, v2, v3, v4, v5, v6].drop 4).take (Tryd.prog.cellsOf 2)) = some y4 := t4
  rw [c_i64] at t4
  have t5 : DataW.trod enc Tryd.prog w 0 sp held n5 2 (([v0, v1, v2, v3, v4, v5, v6].drop 5).take (Tryd.prog.cellsOf 2)) = some y5 := t5
  rw [c_i64] at t5
  have t6 : DataW.trod enc Tryd.prog w 0 sp held n6 46 (([v0, v1, v2, v3, v4, v5, v6].drop 6).take (Tryd.prog.cellsOf 46)) = some y6 := t6
  rw [c_tiers] at t6
  obtain ⟨z0, rfl, w0⟩ := int_of Tryd.underlying23 t0
  obtain ⟨z1, rfl, w1⟩ := int_of Tryd.underlying2 t1
  obtain ⟨z2, rfl, w2⟩ := int_of Tryd.underlying2 t2
  obtain ⟨z3, rfl, w3⟩ := int_of Tryd.underlying2 t3
  obtain ⟨z4, rfl, w4⟩ := int_of Tryd.underlying2 t4
  obtain ⟨z5, rfl, w5⟩ := int_of Tryd.underlying2 t5
  obtain ⟨v', L, hc, hg, hk⟩ := gr_of shT Tr.Ok uTiers c_tier (fun n cs y h => tier_of h) t6
  obtain ⟨ta, tc, rfl, _⟩ := hg.shape
  have hc : [v6] = [Value.slice ta L.length tc] := hc
  injection hc with hc _
  subst hc
  exact ⟨⟨z0, z1, z2, z3, z4, z5, L⟩, ta, tc, ⟨w0, w1, w2, w3, w4, w5, hk⟩, rfl, hg⟩
theorem act21_of {n : Nat} {cs : List Value} {y : DataW H × List MemPlace} {sp : Nat → Bool} (hm : DataW.trod enc Tryd.prog w 0 sp held n 50 cs = some y) : ∃ x : A21, x.Ok w ∧ cs = shA.cf x := by
  obtain ⟨hl, hf⟩ := field_trod Tryd.underlying50 hm
  rw [c_act] at hl
  obtain ⟨v0, v1, v2, v3, v4, v5, v6, v7, v8, v9, v10, v11, rfl⟩ : ∃ v0 v1 v2 v3 v4 v5 v6 v7 v8 v9 v10 v11, cs = [v0, v1, v2, v3, v4, v5, v6, v7, v8, v9, v10, v11] := by
    match cs, hl with
    | [v0, v1, v2, v3, v4, v5, v6, v7, v8, v9, v10, v11], _ => exact ⟨_, _, _, _, _, _, _, _, _, _, _, _, rfl⟩
  obtain ⟨n0, y0, t0⟩ := hf 0 _ rfl
  obtain ⟨n1, y1, t1⟩ := hf 1 _ rfl
  obtain ⟨n2, y2, t2⟩ := hf 2 _ rfl
  obtain ⟨n3, y3, t3⟩ := hf 3 _ rfl
  obtain ⟨n4, y4, t4⟩ := hf 4 _ rfl
  obtain ⟨n5, y5, t5⟩ := hf 5 _ rfl
  have t0 : DataW.trod enc Tryd.prog w 0 sp held n0 5 (([v0, v1, v2, v3, v4, v5, v6, v7, v8, v9, v10, v11].drop 0).take (Tryd.prog.cellsOf 5)) = some y0 := t0
  rw [c_u8] at t0
  have t1 : DataW.trod enc Tryd.prog w 0 sp held n1 48 (([v0, v1, v2, v3, v4, v5, v6, v7, v8, v9, v10, v11].drop 1).take (Tryd.prog.cellsOf 48)) = some y1 := t1
  rw [c_plan] at t1
  have t2 : DataW.trod enc Tryd.prog w 0 sp held n2 23 (([v0, v1, v2, v3, v4, v5, v6, v7, v8, v9, v10, v11].drop 8).take (Tryd.prog.cellsOf 23)) = some y2 := t2
  rw [c_u32] at t2
  have t3 : DataW.trod enc Tryd.prog w 0 sp held n3 23 (([v0, v1, v2, v3, v4, v5, v6, v7, v8, v9, v10, v11].drop 9).take (Tryd.prog.cellsOf 23)) = some y3 := t3
  rw [c_u32] at t3
  have t4 : DataW.trod enc Tryd.prog w 0 sp held n4 2 (([v0, v1, v2, v3, v4, v5, v6, v7, v8, v9, v10, v11].drop 10).take (Tryd.prog.cellsOf 2)) = some y4 := t4
  rw [c_i64] at t4
  have t5 : DataW.trod enc Tryd.prog w 0 sp held n5 2 (([v0, v1, v2, v3, v4, v5, v6, v7, v8, v9, v10, v11].drop 11).take (Tryd.prog.cellsOf 2)) = some y5 := t5
  rw [c_i64] at t5
  obtain ⟨z0, rfl, w0⟩ := int_of Tryd.underlying5 t0
  obtain ⟨p, ta, tc, hp, hc, hg⟩ := plan_of t1
  obtain ⟨z2, rfl, w2⟩ := int_of Tryd.underlying23 t2
  obtain ⟨z3, rfl, w3⟩ := int_of Tryd.underlying23 t3
  obtain ⟨z4, rfl, w4⟩ := int_of Tryd.underlying2 t4
  obtain ⟨z5, rfl, w5⟩ := int_of Tryd.underlying2 t5
  have hc : [v1, v2, v3, v4, v5, v6, v7] = p.cells (.slice ta p.tiers.length tc) := hc
  unfold Pl.cells at hc
  injection hc with e1 hc
  injection hc with e2 hc
  injection hc with e3 hc
  injection hc with e4 hc
  injection hc with e5 hc
  injection hc with e6 hc
  injection hc with e7 _
  subst e1; subst e2; subst e3; subst e4; subst e5; subst e6; subst e7
  exact ⟨⟨z0, p, ta, tc, z2, z3, z4, z5⟩, ⟨w0, hp, hg, w2, w3, w4, w5⟩, rfl⟩
theorem acts21_in {r : Reach} {b0 : Nat} {v : Value} {d : DataW H} {ps : List MemPlace} {sp : Nat → Bool} (hv : Value.okWide Tryd.prog w r b0 30 v) (h : DataW.Trod enc Tryd.prog w 0 sp held 30 v d ps) : ∃ l, AS21 w v l := by
  obtain ⟨a, len, cap, rfl⟩ := okWide_slice uActs21 hv
  obtain ⟨m, hm⟩ := h
  obtain ⟨v', L, hc, hg, hk⟩ := gr_of shA (fun x => A21.Ok w x) uActs21 c_act (fun n cs y h => act21_of h) hm
  simp [Value.cells] at hc
  subst hc
  exact ⟨L, hg, hk⟩
theorem act21_in {r : Reach} {b0 : Nat} {v : Value} {d : DataW H} {ps : List MemPlace} {sp : Nat → Bool} (hv : Value.okWide Tryd.prog w r b0 50 v) (h : DataW.Trod enc Tryd.prog w 0 sp held 50 v d ps) : ∃ x : A21, v = .agg x.cells.toArray ∧ x.Ok w := by
  obtain ⟨cs, rfl, hsz⟩ := okWide_struct Tryd.underlying50 hv
  obtain ⟨m, hm⟩ := h
  obtain ⟨x, hx, hc⟩ := act21_of hm
  obtain ⟨cl⟩ := cs
  have hc : cl = x.cells := hc
  subst hc
  exact ⟨x, rfl, hx⟩
end
end Go.Proofs.YtidppalhjknlfaaDoor
