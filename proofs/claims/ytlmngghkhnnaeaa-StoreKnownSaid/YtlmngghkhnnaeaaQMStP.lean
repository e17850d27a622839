/- The store as numbers and bytes: what its calls do; what is there when the power comes again. No walk here. What a store is, in memory: states, rows of bools. No walk here. The walks of slices.Clone of bools, maps.Clone, store.state's has. -/
import Derived.Test.YtlmngghkhnnaeaaQFr
import Derived.Test.YtlmngghkhnnaeaaQDisk8
import Derived.Test.YtlmngghkhnnaeaaQMGet4
namespace Go.Proofs.Ytlmngghkhnnaeaa
set_option maxRecDepth 100000
set_option linter.unusedVariables false
set_option linter.unusedSimpArgs false
/-! ### pages that wait -/
theorem at_mix (f : Int) (was now : ByteArray) (h : was.size = 4096) (hn : now.size = 4096) : ∀ j, j ≤ 8 → ∀ i, i < 4096 → at? (mix f was now j) i = if i < 512 * j ∧ bitv f (i / 512) = true then at? now i else at? was i
  | 0, _, i, hi => by rw [if_neg (by omega)]; rfl
  | j + 1, hj, i, hi => by
    have ih := at_mix f was now h hn j (by omega) i hi
    have hz := mix_size f was now h hn j (by omega)
    have hx : ((now.extract (512 * j) 4096).extract 0 512).size = 512 := by rw [ByteArray.size_extract, ByteArray.size_extract]; omega
    by_cases hb : bitv f j = true
    · rw [mix_yes _ _ _ _ hb, at_over _ _ _ (by rw [hz, hx]; omega), hx, ih]
      by_cases c : 512 * j ≤ i ∧ i < 512 * j + 512
      · have d : i / 512 = j := by omega
        rw [if_pos c, if_pos ⟨by omega, by rw [d]; exact hb⟩, at_extract, if_pos (by omega), at_extract, if_pos (by omega), show 512 * j + (0 + (i - 512 * j)) = i by omega]
      · rw [if_neg c]
        by_cases c2 : i < 512 * j
        · by_cases c3 : bitv f (i / 512) = true
          · rw [if_pos ⟨c2, c3⟩, if_pos ⟨by omega, c3⟩]
          · rw [if_neg (fun h => c3 h.2), if_neg (fun h => c3 h.2)]
        · rw [if_neg (fun h => c2 h.1), if_neg (fun h => by omega)]
    · rw [mix_no _ _ _ _ (by simpa using hb), ih]
      by_cases c2 : i < 512 * j
      · by_cases c3 : bitv f (i / 512) = true
        · rw [if_pos ⟨c2, c3⟩, if_pos ⟨by omega, c3⟩]
        · rw [if_neg (fun h => c3 h.2), if_neg (fun h => c3 h.2)]
      · rw [if_neg (fun h => c2 h.1)]
        by_cases c4 : i < 512 * j + 512
        · have d : i / 512 = j := by omega
          rw [if_neg (fun h => hb (by rw [← d]; exact h.2))]
        · rw [if_neg (fun h => by omega)]
theorem stamp_mix (f : Int) (was now : ByteArray) (h : was.size = 4096) (hn : now.size = 4096) (j : Nat) (hj : j < 8) : stampAt (mix f was now 8) j = if bitv f j = true then stampAt now j else stampAt was j := by
  have key : ∀ (X : ByteArray), (∀ i, 512 * j ≤ i → i < 512 * j + 8 → at? (mix f was now 8) i = at? X i) → stampAt (mix f was now 8) j = stampAt X j := by
    intro X hX
    unfold stampAt
    congr 1
    apply ba_at
    intro i
    rw [at_extract, at_extract]
    by_cases c : i < 8
    · rw [if_pos (by omega), if_pos (by omega), hX _ (by omega) (by omega)]
    · rw [if_neg (by omega), if_neg (by omega)]
  by_cases hb : bitv f j = true
  · rw [if_pos hb]
    refine key now (fun i h1 h2 => ?_)
    have d : i / 512 = j := by omega
    rw [at_mix f was now h hn 8 (Nat.le_refl _) i (by omega), d, if_pos ⟨by omega, hb⟩]
  · rw [if_neg hb]
    refine key was (fun i h1 h2 => ?_)
    have d : i / 512 = j := by omega
    rw [at_mix f was now h hn 8 (Nat.le_refl _) i (by omega), d, if_neg (fun h => hb h.2)]
/-- a torn page is the new one, or the old one, or none -/
theorem torn (f : Int) (was now : ByteArray) (h : was.size = 4096) (hn : now.size = 4096) (st : Nat) (hw : ∀ j, j < 8 → stampAt was j < st) (hnw : ∀ j, j < 8 → stampAt now j = st) (at_ kind : Int) :
    mix f was now 8 = now ∨ mix f was now 8 = was ∨ getF (mix f was now 8) at_ kind = none := by
  by_cases hall : ∀ j, j < 8 → bitv f j = true
  · left
    apply ba_at
    intro i
    by_cases hi : i < 4096
    · rw [at_mix f was now h hn 8 (Nat.le_refl _) i hi, if_pos ⟨by omega, hall _ (by omega)⟩]
    · rw [(at_none _ _).2 (by rw [mix_size f was now h hn 8 (Nat.le_refl _)]; omega), (at_none _ _).2 (by omega)]
  · by_cases hno : ∀ j, j < 8 → bitv f j = false
    · right; left
      apply ba_at
      intro i
      by_cases hi : i < 4096
      · rw [at_mix f was now h hn 8 (Nat.le_refl _) i hi, if_neg (fun h => by rw [hno _ (by omega)] at h; cases h.2)]
      · rw [(at_none _ _).2 (by rw [mix_size f was now h hn 8 (Nat.le_refl _)]; omega), (at_none _ _).2 (by omega)]
    · right; right
      obtain ⟨a, ha⟩ := Classical.not_forall.1 hall
      obtain ⟨ha1, ha2⟩ := Classical.not_imp.1 ha
      obtain ⟨b, hb⟩ := Classical.not_forall.1 hno
      obtain ⟨hb1, hb2⟩ := Classical.not_imp.1 hb
      cases hg : getF (mix f was now 8) at_ kind with
      | none => rfl
      | some x =>
        exfalso
        obtain ⟨bb, s⟩ := x
        have sa := get_stamps hg a ha1
        have sb := get_stamps hg b hb1
        rw [stamp_mix f was now h hn a ha1, if_neg ha2] at sa
        rw [stamp_mix f was now h hn b hb1, if_pos (by simpa using hb2)] at sb
        have := hw a ha1
        have := hnw b hb1
        omega
theorem setl_get (f : Nat → Int) (W : Wt) (L : List Pg) (hn : (W.map (·.1)).Nodup) (hr : ∀ q ∈ W, 0 ≤ q.1 ∧ q.1 < L.length) (i : Nat) : ∀ k, k ≤ W.length →
    (∃ (j : Nat) (u : ByteArray), j < k ∧ W[j]? = some ((i : Int), u) ∧ (setl f W L k)[i]? = some (some (mix (f j) (pgOf (L.getD i none)) u 8))) ∨
    ((∀ (j : Nat) q, j < k → W[j]? = some q → q.1 ≠ i) ∧ (setl f W L k)[i]? = L[i]?)
  | 0, _ => .inr ⟨fun j q h => by omega, rfl⟩
  | k + 1, hk => by
    obtain ⟨⟨a, u⟩, hq⟩ : ∃ q, W[k]? = some q := ⟨_, List.getElem?_eq_getElem (by omega)⟩
    obtain ⟨ha0, ha1⟩ := hr _ (List.mem_of_getElem? hq)
    simp only at ha0 ha1
    obtain ⟨at_, rfl⟩ : ∃ n : Nat, a = n := ⟨a.toNat, by omega⟩
    have hl := setl_length f W L k
    obtain ⟨o, ho⟩ : ∃ o, (setl f W L k)[at_]? = some o := ⟨_, List.getElem?_eq_getElem (by omega)⟩
    have hst := setl_step f W L k at_ u o hq ho
    have ih := setl_get f W L hn hr i k (by omega)
    rw [hst, List.getElem?_set]
    by_cases hi : at_ = i
    · subst hi
      rw [if_pos rfl, if_pos (by omega)]
      rcases ih with ⟨j, x, hj, hx, _⟩ | ⟨hno, hs⟩
      · exfalso
        have h1 : (W.map (·.1))[j]? = some (at_ : Int) := by rw [List.getElem?_map, hx]; rfl
        have h2 : (W.map (·.1))[k]? = some (at_ : Int) := by rw [List.getElem?_map, hq]; rfl
        have hjl := (List.getElem?_eq_some_iff.1 h1).1
        have := (List.getElem?_inj (l := W.map (·.1)) hjl hn).1 (h1.trans h2.symm)
        omega
      · refine .inl ⟨k, u, by omega, hq, ?_⟩
        rw [ho] at hs
        rw [List.getD_eq_getElem?_getD, ← hs, Option.getD_some]
    · rw [if_neg hi]
      rcases ih with ⟨j, x, hj, hx, hs⟩ | ⟨hno, hs⟩
      · exact .inl ⟨j, x, by omega, hx, hs⟩
      · refine .inr ⟨fun j q hj hjq => ?_, hs⟩
        by_cases hjk : j = k
        · subst hjk
          rw [hq] at hjq
          cases hjq
          simp only; omega
        · exact hno j q (by omega) hjq
end Go.Proofs.Ytlmngghkhnnaeaa
namespace Go.Proofs.Ytlmngghkhnnaeaa
open Go.RowKit
set_option maxRecDepth 100000
set_option linter.unusedVariables false
set_option linter.unusedSimpArgs false
theorem Keep.setEq {b : Nat} {a w : World} (h : Keep (fun i => i = b) a w) (k : Nat) (u : Value) : Keep (fun i => i = b) a (w.setCell ⟨b, k, none⟩ u) := h.setCell (p := ⟨b, k, none⟩) (.inl rfl) u
/-- a state of a store -/
structure St where
  root : Int
  taken : List Bool
  held : List Bool
  fresh : Wt
  touched : Bool
/-- where it lies -/
structure StM where
  bt : Nat
  ct : Nat
  bh : Nat
  ch : Nat
  bf : Nat
def StM.blk (m : StM) (i : Nat) : Prop := i = m.bt ∨ i = m.bh ∨ i = m.bf
/-- block b is a row of bools -/
def BR (w : World) (b c : Nat) (l : List Bool) : Prop :=
  ∃ cur, w.heap[b]? = some (.cells cur 4 (0, 0)) ∧ l.length ≤ c ∧ c ≤ maxLen ∧ ∀ (i : Nat) x, l[i]? = some x → cur[i]? = some (.bool x)
theorem BR.keep {F : Nat → Prop} {w w' : World} {b c : Nat} {l : List Bool} (h : BR w b c l) (hk : Keep F w w') (hF : ¬ F b) : BR w' b c l := by
  obtain ⟨cur, h1, h2⟩ := h
  exact ⟨cur, hk.blk h1 hF, h2⟩
theorem BR.lt {w : World} {b c : Nat} {l : List Bool} (h : BR w b c l) : b < w.heap.size := by obtain ⟨cur, h1, _⟩ := h; exact blk_lt h1
theorem BR.cell {w : World} {b c : Nat} {l : List Bool} (h : BR w b c l) {i : Nat} {x : Bool} (hi : l[i]? = some x) : w.cell? ⟨b, i, none⟩ = some (.bool x) := by
  obtain ⟨cur, h1, _, _, h2⟩ := h
  rw [blk_cell h1]; exact h2 i x hi
theorem BR.fz {w : World} {b c : Nat} {l : List Bool} (h : BR w b c l) (i : Nat) : w.frozen? ⟨b, i, none⟩ = false := by
  obtain ⟨cur, h1, _⟩ := h; exact blk_frozen h1 i
theorem BR.set {w : World} {b c : Nat} {l : List Bool} (h : BR w b c l) (i : Nat) (y : Bool) : BR (w.setCell ⟨b, i, none⟩ (.bool y)) b c (l.set i y) := by
  obtain ⟨cur, h1, h2, h3, h4⟩ := h
  refine ⟨_, blk_setCell h1 i _, by rw [List.length_set]; exact h2, h3, fun j x hj => ?_⟩
  rw [List.getElem?_set] at hj
  rw [Array.getElem?_setIfInBounds]
  by_cases e : i = j
  · subst e
    rw [if_pos rfl] at hj ⊢
    split at hj
    case isTrue hlt =>
      cases hj
      have := h4 i l[i] (List.getElem?_eq_getElem hlt)
      rw [if_pos (Array.getElem?_eq_some_iff.1 this).1]
    case isFalse => cases hj
  · rw [if_neg e] at hj ⊢
    exact h4 j x hj
theorem BR.ofRow {w : World} {base : Nat} {v : Value} {l : List Bool} (h : w.ownsRow base 4 1 v l.length (l.map Value.bool)) (hl : 0 < l.length) : ∃ b c, v = .slice (some ⟨b, 0, none⟩) l.length c ∧ base ≤ b ∧ BR w b c l := by
  rcases h.2 with ⟨rfl, h0⟩ | ⟨g, cap, cur, rfl, hB, hg, hn, hm, hs, ht⟩
  · omega
  · refine ⟨g, cap, rfl, hB, cur, hg, hn, hm, fun i x hi => ?_⟩
    have hlt := (List.getElem?_eq_some_iff.1 hi).1
    have h1 : (cur.toList.take (l.length * 1))[i]? = some (.bool x) := by rw [ht, List.getElem?_map, hi]; rfl
    rw [List.getElem?_take, if_pos (by omega)] at h1
    simpa using h1
theorem BR.cells {w : World} {b c : Nat} {l : List Bool} (h : BR w b c l) : ∀ j u, (l.map Value.bool)[j]? = some u → w.cell? ((⟨b, 0, none⟩ : Addr).add j) = some u := by
  intro j u hj
  rw [List.getElem?_map] at hj
  obtain ⟨x, hx, rfl⟩ := Option.map_eq_some_iff.1 hj
  rw [Go.WideShapes.add_plain, Nat.zero_add]
  exact h.cell hx
/-- the state of a store's bytes that are in the change: a map -/
def FrIs (w : World) (V : Nat → Prop) (bf : Nat) (f : Wt) : Prop :=
  ∃ vs, IMapAt w bf vs ∧ vs.length = f.length ∧ ∀ (i : Nat) (q : Int × ByteArray), f[i]? = some q → ∃ v, vs[i]? = some (q.1, v) ∧ Own 5 w 0 v q.2 ∧ ∀ k, v.ownBlock = some k → V k
structure StIs (w : World) (V : Nat → Prop) (m : StM) (s : St) : Prop where
  t : BR w m.bt m.ct s.taken
  h : BR w m.bh m.ch s.held
  f : FrIs w V m.bf s.fresh
  ne : m.bt ≠ m.bh
  len : s.held.length = s.taken.length
  lo : 4 ≤ s.taken.length
  hi : s.taken.length ≤ 4096
  root : 0 ≤ s.root ∧ s.root < s.taken.length
  keys : ∀ q ∈ s.fresh, 2 ≤ q.1 ∧ q.1 < s.taken.length ∧ q.2.size ≤ 4011
  nodup : (s.fresh.map (·.1)).Nodup
def stCells (m : StM) (s : St) : List Value := [.int .i64 s.root, .slice (some ⟨m.bt, 0, none⟩) s.taken.length m.ct, .slice (some ⟨m.bh, 0, none⟩) s.held.length m.ch, .map (some m.bf), .bool s.touched]
theorem Own.not_in {w : World} {F : Nat → Prop} {B : Nat} {v : Value} {s : ByteArray} (h : Own 5 w B v s) (hB : ∀ i c z, w.heap[i]? = some (.cells c 5 z) → ¬ F i) : ∀ k, v.ownBlock = some k → ¬ F k := fun k hk => by
  obtain ⟨c, z, h'⟩ := row_blk h k hk
  exact hB k c z h'
theorem FrIs.keep {F V : Nat → Prop} {w w' : World} {bf : Nat} {f : Wt} (h : FrIs w V bf f) (hk : Keep F w w') (hF : ¬ F bf) (hV : ∀ i, V i → ¬ F i) : FrIs w' V bf f := by
  obtain ⟨vs, h1, h2, h3⟩ := h
  refine ⟨vs, h1.keep hk hF, h2, fun i q hq => ?_⟩
  obtain ⟨v, a, b, c⟩ := h3 i q hq
  exact ⟨v, a, b.keep hk (fun k hk => hV k (c k hk)), c⟩
theorem FrIs.keepB {F V : Nat → Prop} {w w' : World} {bf : Nat} {f : Wt} (h : FrIs w V bf f) (hk : Keep F w w') (hF : ¬ F bf) (hB : ∀ i c z, w.heap[i]? = some (.cells c 5 z) → ¬ F i) : FrIs w' V bf f := by
  obtain ⟨vs, h1, h2, h3⟩ := h
  refine ⟨vs, h1.keep hk hF, h2, fun i q hq => ?_⟩
  obtain ⟨v, a, b, c⟩ := h3 i q hq
  exact ⟨v, a, b.keep hk (b.not_in hB), c⟩
theorem FrIs.mono {V V' : Nat → Prop} {w : World} {bf : Nat} {f : Wt} (h : FrIs w V bf f) (hV : ∀ i, V i → V' i) : FrIs w V' bf f := by
  obtain ⟨vs, h1, h2, h3⟩ := h
  exact ⟨vs, h1, h2, fun i q hq => by obtain ⟨v, a, b, c⟩ := h3 i q hq; exact ⟨v, a, b, fun k hk => hV k (c k hk)⟩⟩
theorem FrIs.vlt {V : Nat → Prop} {w : World} {bf : Nat} {f : Wt} (h : FrIs w V bf f) : bf < w.heap.size := by obtain ⟨vs, h1, _⟩ := h; exact h1.lt
theorem StIs.keep {F V : Nat → Prop} {w w' : World} {m : StM} {s : St} (h : StIs w V m s) (hk : Keep F w w') (hF : ∀ i, m.blk i → ¬ F i) (hV : ∀ i, V i → ¬ F i) : StIs w' V m s :=
  { h with t := h.t.keep hk (hF _ (.inl rfl)), h := h.h.keep hk (hF _ (.inr (.inl rfl))), f := h.f.keep hk (hF _ (.inr (.inr rfl))) hV }
theorem StIs.keepB {F V : Nat → Prop} {w w' : World} {m : StM} {s : St} (h : StIs w V m s) (hk : Keep F w w') (hF : ∀ i, m.blk i → ¬ F i) (hB : ∀ i c z, w.heap[i]? = some (.cells c 5 z) → ¬ F i) : StIs w' V m s :=
  { h with t := h.t.keep hk (hF _ (.inl rfl)), h := h.h.keep hk (hF _ (.inr (.inl rfl))), f := h.f.keepB hk (hF _ (.inr (.inr rfl))) hB }
theorem StIs.below {V : Nat → Prop} {w w' : World} {m : StM} {s : St} (h : StIs w V m s) (hb : Below w.heap.size w w') : StIs w' V m s := h.keep (Keep.ofBelow hb (fun _ => False)) (fun _ _ h => h) (fun _ _ h => h)
theorem StIs.mono {V V' : Nat → Prop} {w : World} {m : StM} {s : St} (h : StIs w V m s) (hV : ∀ i, V i → V' i) : StIs w V' m s := { h with f := h.f.mono hV }
theorem StIs.lt {V : Nat → Prop} {w : World} {m : StM} {s : St} (h : StIs w V m s) : ∀ i, m.blk i → i < w.heap.size := by
  rintro i (rfl | rfl | rfl)
  · exact h.t.lt
  · exact h.h.lt
  · exact h.f.vlt
/-- a state's blocks are no cells of bytes, and of no other kinds -/
theorem StIs.kind {V : Nat → Prop} {w : World} {m : StM} {s : St} (h : StIs w V m s) : ∀ i, m.blk i → ∀ c e z, w.heap[i]? = some (.cells c e z) → e = 4 := by
  rintro i (rfl | rfl | rfl) c e z hc
  · obtain ⟨cur, h1, _⟩ := h.t; rw [h1] at hc; cases hc; rfl
  · obtain ⟨cur, h1, _⟩ := h.h; rw [h1] at hc; cases hc; rfl
  · obtain ⟨vs, ⟨es, cl, h1, _⟩, _⟩ := h.f; rw [h1] at hc; cases hc
theorem StIs.nbytes {V : Nat → Prop} {w : World} {m : StM} {s : St} (h : StIs w V m s) : ∀ i c z, w.heap[i]? = some (.cells c 5 z) → ¬ m.blk i := fun i c z hc hb => by
  have := h.kind i hb c _ z hc
  exact absurd this (by decide)
/-- slices.Clone of bools, as a list -/
def hasB (l : List Bool) (x : Int) : Bool := decide (2 ≤ x) && (decide (x < l.length) && l.getD x.toNat false)
/-- pages that are free -/
def freeL (t h : List Bool) : List Nat := (List.range t.length).filter fun p => decide (2 ≤ p) && (!t.getD p false && !h.getD p false)
end Go.Proofs.Ytlmngghkhnnaeaa
namespace Go.Proofs.Ytlmngghkhnnaeaa
open Go.RowKit
set_option maxRecDepth 100000
set_option linter.unusedVariables false
set_option linter.unusedSimpArgs false
theorem uBools : Try.prog.underlying 57 = some (.slice 4) := by kernel_rfl
theorem iBool : (Try.prog.info? 4).map (fun i => (i.zero, i.size, i.bytes)) = some (some (.bool false), 1, 1) := by kernel_rfl
theorem cloneo_any (b c : Nat) (l : List Bool) (w : World) (h : BR w b c l) (h0 : 0 < l.length) (h1 : l.length ≤ 4096) :
    Calls Try.prog 62 #[.slice (some ⟨b, 0, none⟩) l.length c] w fun e w' => ∃ b' c', e = .returned (.slice (some ⟨b', 0, none⟩) l.length c') ∧ w.heap.size ≤ b' ∧ BR w' b' c' l ∧ Below w.heap.size w w' := by
  obtain ⟨i0, hi, hzz⟩ := Option.map_eq_some_iff.1 iBool
  simp only [Prod.mk.injEq] at hzz
  obtain ⟨hz0, hz1, hz2⟩ := hzz
  have hnil := fun w => Lib.run_eql_slice_nil (P := Try.prog) w 57 4 (some ⟨b, 0, none⟩) l.length c 0 0 uBools
  simp only [Option.isNone_some] at hnil
  have hown0 : (w.alloc (.cells #[] 4)).ownsRow w.heap.size 4 1 (.slice (some ⟨w.heap.size, 0, none⟩) 0 0) 0 [] := World.ownsRow_made w #[] 0 (Nat.le_refl _) (by decide) rfl
  have hcells := (h.keep (Keep.ofBelow ((Below.refl _ w).alloc (Nat.le_refl _) (.cells #[] 4)) (fun _ => False)) (fun h => h)).cells
  have HO0 := Lib.hid hown0
  have HCL := Lib.hid hcells
  have HI := Lib.hid hi
  have H1 := Lib.hid (show ∀ u ∈ l.map Value.bool, u.oneCell' = true by intro u hu; obtain ⟨x, _, rfl⟩ := List.mem_map.1 hu; rfl)
  have H0 := Lib.hid h0
  clear h hown0 hcells hi h0
  go_enter Try.func62, Try.ntmps62
  go_wp2_with (at_builtin; go_must (refine wpList_append_own (w.alloc (.cells #[] 4)) rfl _ _ 57 rfl w.heap.size 4 i0 _ 1 1 uBools HI.out hz0 hz1 hz2 rfl (by decide) (.slice (some ⟨w.heap.size, 0, none⟩) 0 0) 0 [] rfl HO0.out ⟨b, 0, none⟩ l.length c (l.map Value.bool) rfl (by simp) HCL.out H1.out (by unfold maxLen; omega) (by omega) (by simp) ?_); intro v1 w1 ho hgr _; have HO := Lib.hid ho; have HG := Lib.hid (((Below.refl w.heap.size w).alloc (Nat.le_refl _) (.cells #[] 4)).trans ((keep_grown hgr).below (B := w.heap.size) (by simp) (fun i hi => by cases hi; exact Nat.le_refl _))); clear ho hgr)
  go_ret
  have h2 : w1.ownsRow w.heap.size 4 1 v1 l.length (l.map Value.bool) := by have := HO.out; simpa using this
  obtain ⟨b', c', rfl, hB, hbr⟩ := BR.ofRow h2 H0.out
  exact ⟨_, _, rfl, hB, hbr, HG.out⟩
theorem IMapAt.clone {P : Program} {w : World} {b : Nat} {l : IM} (h : IMapAt w b l) (u : TypeId) : ∃ o, (Extern.MapsClone.clone #[.iface u (.map (some b))]).run P w = .ok (.iface u (.map (some w.heap.size))) (w.alloc o) ∧ IMapAt (w.alloc o) w.heap.size l := by
  obtain ⟨es, c, h1, h2, h3, h4⟩ := h
  have hg : (getObj b).run P w = .ok (.map es c) w := by simp [getObj, Sem.run, h1]
  refine ⟨.map es c, ?_, ⟨es, c, blk_new w _, h2, h3, h4⟩⟩
  have e : Extern.MapsClone.clone #[.iface u (.map (some b))] = (do
    let .map entries clock ← getObj b | stuck "maps.clone: a map expected"
    pure (.iface u (.map (some (← newObj (.map entries clock)))))) := rfl
  rw [e]
  simp [Result.andThen, hg, newObj, -World.alloc_eq]
  simp [Sem.run, World.alloc, -World.alloc_eq]
theorem uMapI : Try.prog.underlying 51 = some (.map 3 28) := by kernel_rfl
theorem mclone_any (V : Nat → Prop) (b : Nat) (f : Wt) (w : World) (h : FrIs w V b f) :
    Calls Try.prog 63 #[.map (some b)] w fun e w' => e = .returned (.map (some w.heap.size)) ∧ FrIs w' V w.heap.size f ∧ Below w.heap.size w w' ∧ w.heap.size < w'.heap.size := by
  obtain ⟨vs, h1, h2, h3⟩ := h
  obtain ⟨o, hc, hm⟩ := h1.clone (P := Try.prog) 51
  have hx : (callFunc 80 #[.iface 51 (.map (some b))]).run Try.prog w = .ok (.value (.iface 51 (.map (some w.heap.size)))) (w.alloc o) := by
    rw [run_callFunc_extern Try.func80 (by kernel_rfl) (by kernel_rfl) (by kernel_rfl) (show Extern.find Try.f80 = some Extern.MapsClone.clone by kernel_rfl), hc]
    rfl
  have hta : ∀ (v : Option Nat) (w : World), (Instr.typeAssert (.iface 51 (.map v)) 20 51 false).run Try.prog w = .ok (.map v) w := fun _ _ => by kernel_rfl
  have hnil := fun w => run_eql_map_nil (P := Try.prog) w 51 3 28 (some b) uMapI
  have HM := Lib.hid hm
  have H2 := Lib.hid h2
  have H3 := Lib.hid h3
  clear h1 hc hm h2 h3
  go_enter Try.func63, Try.ntmps63
  go_wp2
  go_ret
  refine ⟨rfl, ⟨vs, HM.out, H2.out, fun i q hq => ?_⟩, (Below.refl _ _).alloc (Nat.le_refl _) _, by simp⟩
  obtain ⟨v, a, b, c⟩ := H3.out i q hq
  exact ⟨v, a, b.alloc _, c⟩
theorem has_any (q c bt : Nat) (l : List Bool) (x : Int) (w : World) (hc : w.cell? ⟨q, 1, none⟩ = some (.slice (some ⟨bt, 0, none⟩) l.length c)) (h : BR w bt c l) (hl : l.length ≤ 4096) :
    Calls Try.prog 48 #[.pointer (some ⟨q, 0, none⟩), .int .i64 x] w fun e w' => e = .returned (.bool (hasB l x)) ∧ w = w' := by
  unfold hasB
  by_cases h2 : 2 ≤ x
  · by_cases hlt : x < l.length
    · obtain ⟨n, rfl⟩ : ∃ n : Nat, x = n := ⟨x.toNat, by omega⟩
      have hn : n < l.length := by omega
      have hce := h.cell (List.getElem?_eq_getElem hn)
      have hgd : l.getD n false = l[n] := by rw [List.getD_eq_getElem?_getD, List.getElem?_eq_getElem hn]; rfl
      rw [Int.toNat_natCast, hgd, decide_eq_true h2, decide_eq_true hlt, Bool.true_and, Bool.true_and]
      generalize l[n] = y at hce
      clear h hgd hn
      go_enter Try.func48, Try.ntmps48
      go_wp2
      go_ret
      exact ⟨rfl, rfl⟩
    · rw [decide_eq_true h2, decide_eq_false hlt, Bool.true_and, Bool.false_and]
      clear h
      go_enter Try.func48, Try.ntmps48
      go_wp2
      go_ret
      exact ⟨rfl, rfl⟩
  · rw [decide_eq_false h2, Bool.false_and]
    clear h
    go_enter Try.func48, Try.ntmps48
    go_wp2
    go_ret
    exact ⟨rfl, rfl⟩
end Go.Proofs.Ytlmngghkhnnaeaa
