/- Acts of quitrentlaw20, and leases, that came in, in the walks' words. -/
import Derived.Test.YtidppalhjknlfaaLeR
import Derived.Test.YtidppalhjknlfaaRow
import Derived.Test.YtidppalhjknlfaaActs
import Derived.DataShut
namespace Go.Proofs.Ytidppalhjknlfaa
open Go.ChangeShapes Go.WideShapes Go.Deep Go.RowKit
set_option linter.unusedVariables false
set_option linter.unusedSimpArgs false
set_option maxRecDepth 100000
structure A20 where
  doo : Int
  l : Ls
  now : Int
structure A20.Ok (a : A20) : Prop where
  d : 0 ≤ a.doo ∧ a.doo ≤ 255
  l : a.l.Ok
  n : W64 a.now
def A20.cells (a : A20) : List Value := [.int .u8 a.doo, .int .u32 a.l.id, .int .i64 a.l.units, .int .i64 a.l.exp, .int .i64 a.l.day, .int .i64 a.l.month, .int .i64 a.now]
def AT20 (w : World) (b o : Nat) (x : A20) : Prop := ∀ (k : Nat) u, x.cells[k]? = some u → w.cell? ⟨b, o + k, none⟩ = some u
/-- v is a slice of acts that reads as l -/
def AS20 (w : World) (v : Value) (l : List A20) : Prop :=
  ∃ a c, v = .slice a l.length c ∧ l.length ≤ maxLen ∧ (∀ (i : Nat) (x : A20), l[i]? = some x → x.Ok) ∧
    (l = [] ∨ ∃ b off, a = some ⟨b, off, none⟩ ∧ ∀ (i : Nat) (x : A20), l[i]? = some x → AT20 w b (off + i * 7) x)
theorem AS20.below {w w' : World} {v : Value} {l : List A20} (h : AS20 w v l) (hb : Below w.heap.size w w') : AS20 w' v l := by
  obtain ⟨a, c, rfl, h1, h2, h3⟩ := h
  refine ⟨a, c, rfl, h1, h2, ?_⟩
  rcases h3 with h3 | ⟨b, off, rfl, h3⟩
  · exact .inl h3
  · exact .inr ⟨b, off, rfl, fun i x hx k u hu => (Keep.ofBelow hb (fun _ => False)).cell (h3 i x hx k u hu) (fun h => h)⟩
theorem AS20.at_ {w : World} {a : Option Addr} {n c : Nat} {l : List A20} (h : AS20 w (.slice a n c) l) {i : Nat} {x : A20} (hx : l[i]? = some x) : ∃ b off, a = some ⟨b, off, none⟩ ∧ x.Ok ∧
    w.cell? ⟨b, off + i * 7, none⟩ = some (.int .u8 x.doo) ∧ w.cell? ⟨b, off + i * 7 + 1, none⟩ = some (.int .u32 x.l.id) ∧ w.cell? ⟨b, off + i * 7 + 2, none⟩ = some (.int .i64 x.l.units) ∧ w.cell? ⟨b, off + i * 7 + 3, none⟩ = some (.int .i64 x.l.exp) ∧ w.cell? ⟨b, off + i * 7 + 4, none⟩ = some (.int .i64 x.l.day) ∧ w.cell? ⟨b, off + i * 7 + 5, none⟩ = some (.int .i64 x.l.month) ∧ w.cell? ⟨b, off + i * 7 + 6, none⟩ = some (.int .i64 x.now) := by
  obtain ⟨a', c', he, _, hk, h3⟩ := h
  injection he with he _ _
  subst he
  rcases h3 with h3 | ⟨b, off, rfl, h3⟩
  · rw [h3] at hx; simp at hx
  · have h := h3 i x hx
    exact ⟨b, off, rfl, hk i x hx, h 0 _ rfl, h 1 _ rfl, h 2 _ rfl, h 3 _ rfl, h 4 _ rfl, h 5 _ rfl, h 6 _ rfl⟩
section
variable {H : Type} {enc : TypeId × Value → H} {P : Program} {w : World} {base : Nat} {spare : Nat → Bool} {held : Bool}
/-- each element's cells, and what they read as -/
theorem slice_cells {t e : TypeId} {fuel : Nat} {cs : List Value} {x : DataW H × List MemPlace} (ht : P.underlying t = some (.slice e)) (h : DataW.trod enc P w base spare held fuel t cs = some x) :
    cs = [.slice none 0 0] ∨ ∃ (a : Addr) (len cap : Nat), cs = [.slice (some a) len cap] ∧ len ≤ cap ∧ cap ≤ maxLen ∧
      ∀ i, i < len → ∃ cs' : List Value, cs'.length = P.cellsOf e ∧ (∀ j, j < P.cellsOf e → w.cell? (a.add (i * P.cellsOf e + j)) = cs'[j]?) ∧ ∃ n y, DataW.trod enc P w base spare held n e cs' = some y := by
  rcases open_slice ht h with ⟨h0, _⟩ | ⟨a, len, cap, m, n, D, Pl, hcs, _, hl, hm, hmm, _, hi⟩
  · exact .inl h0
  · refine .inr ⟨a, len, cap, hcs, hl, hm, fun i him => ?_⟩
    have him' : i < m := by rw [hmm]; split <;> omega
    obtain ⟨cs', hc, ht'⟩ := hi i him'
    obtain ⟨_, hcl, hat⟩ := World.cells?_some hc
    refine ⟨cs', hcl, fun j hj => ?_, n, _, ht'⟩
    have h2 := hat j hj
    rw [Go.Deep.add_add] at h2
    exact h2
end
section
variable {H : Type} {enc : TypeId × Value → H} {w : World} {held : Bool}
theorem int_of {t : TypeId} {k : IntKind} {n : Nat} {v : Value} {y : DataW H × List MemPlace} {sp : Nat → Bool} (ht : Try.prog.underlying t = some (.int k)) (h : DataW.trod enc Try.prog w 0 sp held n t [v] = some y) : ∃ z, v = .int k z ∧ k.min ≤ z ∧ z ≤ k.max := by
  obtain ⟨z, hz, hw⟩ := leaf_int ht h
  obtain ⟨r0, r1⟩ := (Lit.wf_int_iff k _).1 hw
  exact ⟨z, by simpa using hz, r0, r1⟩
theorem cL1 : Try.prog.cellsOf 2 = 1 := by kernel_rfl
theorem cL2 : Try.prog.cellsOf 22 = 1 := by kernel_rfl
theorem cL3 : Try.prog.cellsOf 5 = 1 := by kernel_rfl
theorem cL5 : Try.prog.cellsOf 31 = 5 := by kernel_rfl
theorem cL7 : Try.prog.cellsOf 33 = 7 := by kernel_rfl
theorem lease_of {n : Nat} {cs : List Value} {y : DataW H × List MemPlace} {sp : Nat → Bool} (hm : DataW.trod enc Try.prog w 0 sp held n 31 cs = some y) : ∃ l : Ls, l.Ok ∧ cs = c5 l := by
  obtain ⟨hl, hf⟩ := field_trod Try.underlying31 hm
  rw [cL5] at hl
  obtain ⟨v0, v1, v2, v3, v4, rfl⟩ : ∃ v0 v1 v2 v3 v4, cs = [v0, v1, v2, v3, v4] := by
    match cs, hl with
    | [v0, v1, v2, v3, v4], _ => exact ⟨_, _, _, _, _, rfl⟩
  obtain ⟨n0, y0, t0⟩ := hf 0 _ rfl
  obtain ⟨n1, y1, t1⟩ := hf 1 _ rfl
  obtain ⟨n2, y2, t2⟩ := hf 2 _ rfl
  obtain ⟨n3, y3, t3⟩ := hf 3 _ rfl
  obtain ⟨n4, y4, t4⟩ := hf 4 _ rfl
  have t0 : DataW.trod enc Try.prog w 0 sp held n0 22 (([v0, v1, v2, v3, v4].drop 0).take (Try.prog.cellsOf 22)) = some y0 := t0
  rw [cL2] at t0
  have t1 : DataW.trod enc Try.prog w 0 sp held n1 2 (([v0, v1, v2, v3, v4].drop 1).take (Try.prog.cellsOf 2)) = some y1 := t1
  rw [cL1] at t1
  have t2 : DataW.trod enc Try.prog w 0 sp held n2 2 (([v0, v1, v2, v3, v4].drop 2).take (Try.prog.cellsOf 2)) = some y2 := t2
  rw [cL1] at t2
  have t3 : DataW.trod enc Try.prog w 0 sp held n3 2 (([v0, v1, v2, v3, v4].drop 3).take (Try.prog.cellsOf 2)) = some y3 := t3
  rw [cL1] at t3
  have t4 : DataW.trod enc Try.prog w 0 sp held n4 2 (([v0, v1, v2, v3, v4].drop 4).take (Try.prog.cellsOf 2)) = some y4 := t4
  rw [cL1] at t4
  obtain ⟨z0, rfl, w0⟩ := int_of Try.underlying22 t0
  obtain ⟨z1, rfl, w1⟩ := int_of Try.underlying2 t1
  obtain ⟨z2, rfl, w2⟩ := int_of Try.underlying2 t2
  obtain ⟨z3, rfl, w3⟩ := int_of Try.underlying2 t3
  obtain ⟨z4, rfl, w4⟩ := int_of Try.underlying2 t4
  exact ⟨⟨z0, z1, z2, z3, z4⟩, ⟨w0, w1, w2, w3, w4⟩, rfl⟩
theorem act20_of {n : Nat} {cs : List Value} {y : DataW H × List MemPlace} {sp : Nat → Bool} (hm : DataW.trod enc Try.prog w 0 sp held n 33 cs = some y) : ∃ x : A20, x.Ok ∧ cs = x.cells := by
  obtain ⟨hl, hf⟩ := field_trod Try.underlying33 hm
  rw [cL7] at hl
  obtain ⟨v0, v1, v2, v3, v4, v5, v6, rfl⟩ : ∃ v0 v1 v2 v3 v4 v5 v6, cs = [v0, v1, v2, v3, v4, v5, v6] := by
    match cs, hl with
    | [v0, v1, v2, v3, v4, v5, v6], _ => exact ⟨_, _, _, _, _, _, _, rfl⟩
  obtain ⟨n0, y0, t0⟩ := hf 0 _ rfl
  obtain ⟨n1, y1, t1⟩ := hf 1 _ rfl
  obtain ⟨n2, y2, t2⟩ := hf 2 _ rfl
  have t0 : DataW.trod enc Try.prog w 0 sp held n0 5 (([v0, v1, v2, v3, v4, v5, v6].drop 0).take (Try.prog.cellsOf 5)) = some y0 := t0
  rw [cL3] at t0
  have t1 : DataW.trod enc Try.prog w 0 sp held n1 31 (([v0, v1, v2, v3, v4, v5, v6].drop 1).take (Try.prog.cellsOf 31)) = some y1 := t1
  rw [cL5] at t1
  have t2 : DataW.trod enc Try.prog w 0 sp held n2 2 (([v0, v1, v2, v3, v4, v5, v6].drop 6).take (Try.prog.cellsOf 2)) = some y2 := t2
  rw [cL1] at t2
  obtain ⟨z0, rfl, w0⟩ := int_of Try.underlying5 t0
  obtain ⟨l, hlo, he⟩ := lease_of t1
  obtain ⟨z2, rfl, w2⟩ := int_of Try.underlying2 t2
  refine ⟨⟨z0, l, z2⟩, ⟨w0, hlo, w2⟩, ?_⟩
  have he' : [v1, v2, v3, v4, v5] = c5 l := he
  injection he' with e1 he'
  injection he' with e2 he'
  injection he' with e3 he'
  injection he' with e4 he'
  injection he' with e5 _
  subst e1; subst e2; subst e3; subst e4; subst e5
  rfl
theorem u32_in {r : Reach} {b0 : Nat} {v : Value} {d : DataW H} {ps : List MemPlace} {sp : Nat → Bool} (hv : Value.okWide Try.prog w r b0 22 v) (h : DataW.Trod enc Try.prog w 0 sp held 22 v d ps) : ∃ n, v = .int .u32 n ∧ 0 ≤ n ∧ n ≤ 4294967295 := by
  obtain ⟨n, rfl⟩ := okWide_int Try.underlying22 hv
  obtain ⟨m, hm⟩ := h
  obtain ⟨z, hz, w0⟩ := int_of Try.underlying22 hm
  cases hz
  exact ⟨_, rfl, w0⟩
theorem uActs20 : Try.prog.underlying 23 = some (.slice 33) := by kernel_rfl
theorem uLsIn : Try.prog.underlying 27 = some (.slice 31) := by kernel_rfl
theorem acts20_in {r : Reach} {b0 : Nat} {v : Value} {d : DataW H} {ps : List MemPlace} {sp : Nat → Bool} (hv : Value.okWide Try.prog w r b0 23 v) (h : DataW.Trod enc Try.prog w 0 sp held 23 v d ps) : ∃ l, AS20 w v l := by
  obtain ⟨a, len, cap, rfl⟩ := okWide_slice uActs20 hv
  obtain ⟨m, hm⟩ := h
  rcases slice_cells uActs20 hm with hn | ⟨x, len', cap', hc, hl, hcm, hf⟩
  · simp [Value.cells] at hn
    obtain ⟨rfl, rfl, rfl⟩ := hn
    exact ⟨[], none, 0, rfl, by simp, fun i x h => by simp at h, .inl rfl⟩
  · simp [Value.cells] at hc
    obtain ⟨rfl, rfl, rfl⟩ := hc
    obtain ⟨l, hlen, hR⟩ := list_of (fun i (y : A20) => y.Ok ∧ ∀ (k : Nat) u, y.cells[k]? = some u → w.cell? (x.add (i * 7 + k)) = some u) len (fun i hi => by
      obtain ⟨cs', h1, h2, n, y, h3⟩ := hf i hi
      obtain ⟨z, hz, rfl⟩ := act20_of h3
      refine ⟨z, hz, fun k u hu => ?_⟩
      have hk : k < 7 := (List.getElem?_eq_some_iff.1 hu).1
      have := h2 k (by rw [cL7]; exact hk)
      rw [cL7] at this
      exact this.trans hu)
    subst hlen
    refine ⟨l, some x, cap, rfl, Nat.le_trans hl hcm, fun i y hy => (hR i y hy).1, ?_⟩
    cases hl0 : l with
    | nil => exact .inl rfl
    | cons y r =>
      obtain ⟨b, o, s⟩ := x
      have hc0 := (hR 0 y (by rw [hl0]; rfl)).2 0 _ rfl
      obtain rfl : s = none := by simpa [Addr.add] using World.cell?_spot hc0
      rw [← hl0]
      refine .inr ⟨b, o, rfl, fun i y hy k u hu => ?_⟩
      have := (hR i y hy).2 k u hu
      rw [add_plain] at this
      rw [← this]; congr 2; omega
theorem leases_in {r : Reach} {b0 : Nat} {v : Value} {d : DataW H} {ps : List MemPlace} {sp : Nat → Bool} (hv : Value.okWide Try.prog w r b0 27 v) (h : DataW.Trod enc Try.prog w 0 sp held 27 v d ps) : ∃ L : List Ls, LR w v L ∧ ∀ l ∈ L, l.Ok := by
  obtain ⟨a, len, cap, rfl⟩ := okWide_slice uLsIn hv
  obtain ⟨m, hm⟩ := h
  rcases slice_cells uLsIn hm with hn | ⟨x, len', cap', hc, hl, hcm, hf⟩
  · simp [Value.cells] at hn
    obtain ⟨rfl, rfl, rfl⟩ := hn
    exact ⟨[], LR.nil w, by simp⟩
  · simp [Value.cells] at hc
    obtain ⟨rfl, rfl, rfl⟩ := hc
    obtain ⟨l, hlen, hR⟩ := list_of (fun i (y : Ls) => y.Ok ∧ ∀ (k : Nat) u, (c5 y)[k]? = some u → w.cell? (x.add (i * 5 + k)) = some u) len (fun i hi => by
      obtain ⟨cs', h1, h2, n, y, h3⟩ := hf i hi
      obtain ⟨z, hz, rfl⟩ := lease_of h3
      refine ⟨z, hz, fun k u hu => ?_⟩
      have hk : k < 5 := (List.getElem?_eq_some_iff.1 hu).1
      have := h2 k (by rw [cL5]; exact hk)
      rw [cL5] at this
      exact this.trans hu)
    subst hlen
    refine ⟨l, ⟨some x, cap, rfl, hl, hcm, (fun e => by cases e), ?_⟩, fun y hy => ?_⟩
    · cases hl0 : l with
      | nil => exact .inl rfl
      | cons y r =>
        obtain ⟨b, o, s⟩ := x
        have hc0 := (hR 0 y (by rw [hl0]; rfl)).2 0 _ rfl
        obtain rfl : s = none := by simpa [Addr.add] using World.cell?_spot hc0
        rw [← hl0]
        refine .inr ⟨b, o, rfl, fun i y hy k u hu => ?_⟩
        have := (hR i y hy).2 k u hu
        rwa [add_plain] at this
    · obtain ⟨i, hi, he⟩ := List.mem_iff_getElem.1 hy
      exact (hR i y (by rw [List.getElem?_eq_getElem hi, he])).1
end
end Go.Proofs.Ytidppalhjknlfaa
