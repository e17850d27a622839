/- Changes and the plan in force, in plain words. The walks of quitrentref08.First, quitrentref09.Start, and of the example of quitrentlaw09. The document's book (chapter 21) in memory, and its plans and tenants. -/
import Derived.Test.YtidppalhjknlfaaGreatDoorQCy8
import Derived.Test.YtidppalhjknlfaaGreatDoorQCy10
import Derived.Test.YtidppalhjknlfaaGreatDoorQMRow
import Derived.Test.YtidppalhjknlfaaGreatDoorQGo21
namespace Go.Proofs.YtidppalhjknlfaaGreatDoor
open Go.RowKit
set_option linter.unusedVariables false
set_option linter.unusedSimpArgs false
abbrev Up (L : List Sg) : Prop := L.Pairwise fun a b => a.day < b.day
theorem upto_filter {L : List Sg} (hu : Up L) (d : Int) : upto L d = L.filter fun g => decide (g.day ≤ d) := by
  induction L with
  | nil => rfl
  | cons x L ih =>
    obtain ⟨h1, h2⟩ := List.pairwise_cons.1 hu
    unfold upto at ih ⊢
    by_cases hx : x.day ≤ d
    · rw [List.takeWhile_cons_of_pos (by simpa using hx), List.filter_cons_of_pos (by simpa using hx), ih h2]
    · rw [List.takeWhile_cons_of_neg (by simpa using hx), List.filter_cons_of_neg (by simpa using hx)]
      symm
      rw [List.filter_eq_nil_iff]
      intro y hy
      have := h1 y hy
      simp; omega
theorem chgL_up {L : List Sg} (hu : Up L) {g : Sg} (hl : ∀ x ∈ L, x.day ≤ g.day) : Up (chgL L g) := by
  unfold chgL
  refine List.pairwise_append.2 ⟨hu.sublist List.filter_sublist, List.pairwise_singleton _ _, fun a ha b hb => ?_⟩
  obtain rfl := List.mem_singleton.1 hb
  obtain ⟨h1, h2⟩ := List.mem_filter.1 ha
  have := hl a h1
  have := of_decide_eq_true h2
  omega
theorem upto_chg_lt {L : List Sg} (hu : Up L) {g : Sg} (hl : ∀ x ∈ L, x.day ≤ g.day) {d : Int} (hd : d < g.day) : upto (chgL L g) d = upto L d := by
  rw [upto_filter (chgL_up hu hl), upto_filter hu]
  unfold chgL
  rw [List.filter_append, List.filter_filter, List.filter_cons_of_neg (by simp; omega), List.filter_nil, List.append_nil]
  refine List.filter_congr fun x hx => ?_
  by_cases h : x.day ≤ d
  · have : x.day ≠ g.day := by omega
    simp [h, this]
  · simp [h]
theorem upto_chg_ge {L : List Sg} (hu : Up L) {g : Sg} (hl : ∀ x ∈ L, x.day ≤ g.day) {d : Int} (hd : g.day ≤ d) : (upto (chgL L g) d).getLast? = some g := by
  rw [upto_filter (chgL_up hu hl)]
  unfold chgL
  rw [List.filter_append, List.filter_cons_of_pos (by simpa using hd), List.filter_nil, List.getLast?_append]
  simp
theorem chgE_cases (ps : List Pl) (ts : List Tn) (t i d : Int) : chgE ps ts t i d = 0 ∨ chgE ps ts t i d = 1 ∨ chgE ps ts t i d = 3 ∨ chgE ps ts t i d = 4 := by
  unfold chgE
  split
  · exact .inr (.inr (.inr rfl))
  · split
    · exact .inr (.inr (.inr rfl))
    · split
      · exact .inr (.inl rfl)
      · split
        · exact .inr (.inr (.inl rfl))
        · exact .inl rfl
theorem chgE_ok {ps : List Pl} {ts : List Tn} {t i d : Int} (h : chgE ps ts t i d = 0) : ∃ T, tfind ts t = some T ∧ lastD T.L ≤ d ∧ isDate d = true := by
  unfold chgE at h
  split at h
  · cases h
  · rename_i T hT
    refine ⟨T, hT, ?_⟩
    split at h
    · cases h
    · split at h
      · cases h
      · rename_i h1
        refine ⟨by omega, ?_⟩
        cases hh : isDate d
        · exact absurd (.inl hh) h1
        · rfl
theorem tfind_chg {ps : List Pl} {ts : List Tn} {t i d : Int} {T : Tn} (h : chgE ps ts t i d = 0) (hT : tfind ts t = some T) : tfind (chgT ps ts t i d) t = some { T with L := chgL T.L ⟨d, i⟩ } := by
  unfold chgT
  rw [if_pos h, tfind_set, if_pos rfl, hT]
  unfold tsegs
  rw [hT]; rfl
theorem at_chg_lt {ps : List Pl} {ts : List Tn} {t i n d : Int} (hok : ∀ T, tfind ts t = some T → T.Ok) (h : chgE ps ts t i n = 0) (hd : d < n) : atP (chgT ps ts t i n) t d = atP ts t d := by
  obtain ⟨T, hT, hl, _⟩ := chgE_ok h
  have hu := (hok T hT).up
  unfold atP
  rw [tfind_chg h hT, hT]
  show ((upto (chgL T.L ⟨n, i⟩) d).getLast?).map Sg.plan = _
  rw [upto_chg_lt hu (fun x hx => by have := last_max hu hx; show x.day ≤ n; omega) hd]; rfl
theorem at_chg_ge {ps : List Pl} {ts : List Tn} {t i n d : Int} (hok : ∀ T, tfind ts t = some T → T.Ok) (h : chgE ps ts t i n = 0) (hd : n ≤ d) : atP (chgT ps ts t i n) t d = some i := by
  obtain ⟨T, hT, hl, _⟩ := chgE_ok h
  have hu := (hok T hT).up
  unfold atP
  rw [tfind_chg h hT]
  show ((upto (chgL T.L ⟨n, i⟩) d).getLast?).map Sg.plan = _
  rw [upto_chg_ge hu (fun x hx => by have := last_max hu hx; show x.day ≤ n; omega) hd]; rfl
end Go.Proofs.YtidppalhjknlfaaGreatDoor
namespace Go.Proofs.YtidppalhjknlfaaGreatDoor
set_option linter.unusedVariables false
set_option linter.unusedSimpArgs false
open Go.RowKit
theorem rfirst_no (M : Int) (h : M < 12 ∨ 120000 ≤ M) (w : World) :
    Calls Tryz.prog 43 #[.int .i64 M] w fun e w' => e = .returned (.tuple #[.int .i64 0, .int .i64 1]) ∧ w' = w := by
  go_enter Tryz.func43, Tryz.ntmps43
  go_wp2_with (go_at_call 44; refine (rlength_no _ h _).mono ?_; rintro e w' ⟨rfl, rfl⟩)
  go_ret2
  exact ⟨rfl, rfl⟩
theorem rfirst_yes (M : Int) (h1 : 12 ≤ M) (h2 : M < 120000) (w : World) :
    Calls Tryz.prog 43 #[.int .i64 M] w fun e w' => e = .returned (.tuple #[.int .i64 (Cal.first M), .int .i64 0]) ∧ Below w.heap.size w w' := by
  have hl := Cal.len_bd M
  have hn : (Cal.len M == 0) = false := by simp; omega
  have hc := fun w => rdate_yes (M / 12) (M % 12 + 1) (by omega) (by omega) (by omega) (by omega) w
  rw [show 12 * (M / 12) + (M % 12 + 1) - 1 = M by omega] at hc
  have HC := Lib.hid hc
  clear hc
  go_enter Tryz.func43, Tryz.ntmps43
  go_wp2_with (go_at_call 44; refine (rlength_yes _ h1 h2 _).mono ?_; rintro e w' ⟨rfl, rfl⟩)
  refine (HC.out _).mono ?_
  rintro e w1 ⟨rfl, hb⟩
  have HB := Lib.hid hb
  clear hb
  go_wp2
  go_ret2
  exact ⟨rfl, HB.out⟩
theorem In_exists (d : Int) (h0 : -719162 ≤ d) (h1 : d ≤ 2932896) : ∃ M, 12 ≤ M ∧ M < 120000 ∧ Cal.In M d := by
  have step : ∀ k : Nat, ∀ M : Int, 12 ≤ M → M + k = 120000 → Cal.first M ≤ d → ∃ M, 12 ≤ M ∧ M < 120000 ∧ Cal.In M d := by
    intro k
    induction k with
    | zero =>
      intro M _ h h2
      have : M = 120000 := by omega
      rw [this, Cal.first_end] at h2; omega
    | succ k ih =>
      intro M hM h h2
      by_cases hd : d < Cal.first (M + 1)
      · exact ⟨M, hM, by omega, h2, hd⟩
      · exact ih (M + 1) (by omega) (by omega) (by omega)
  exact step 119988 12 (by omega) (by omega) (by rw [Cal.first_12]; exact h0)
theorem ok_or (t s : Int) : (0 ≤ t ∧ t ≤ 137438953472 ∧ shiftB s = true) ∨ (t < 0 ∨ 137438953472 < t ∨ shiftB s = false) := by
  by_cases h0 : t < 0
  · exact .inr (.inl h0)
  · by_cases h1 : 137438953472 < t
    · exact .inr (.inr (.inl h1))
    · cases h : shiftB s
      · exact .inr (.inr (.inr rfl))
      · exact .inl ⟨by omega, by omega, rfl⟩
end Go.Proofs.YtidppalhjknlfaaGreatDoor
namespace Go.Proofs.YtidppalhjknlfaaGreatDoor
open Go.RowKit
set_option maxRecDepth 100000
set_option maxHeartbeats 2000000
set_option linter.unusedVariables false
set_option linter.unusedSimpArgs false
/-- a plan as it lies -/
structure PV where
  P : Pl
  ta : Option Addr
  tc : Nat
def PV.cells (x : PV) : List Value := [.int .u32 x.P.id, .int .i64 x.P.daily, .int .i64 x.P.monthly, .int .i64 x.P.over, .int .i64 x.P.roll, .int .i64 x.P.base, .slice x.ta x.P.tiers.length x.tc]
def shP : Sh PV := ⟨7, PV.cells, fun _ => rfl, by decide, fun x u hu => by
  simp only [PV.cells, List.mem_cons, List.not_mem_nil, or_false] at hu
  rcases hu with rfl | rfl | rfl | rfl | rfl | rfl | rfl <;> rfl⟩
/-- a tenant as it lies -/
structure TV where
  T : Tn
  b : Nat
  la : Option Addr
  lc : Nat
def TV.cells (x : TV) : List Value := [.pointer (some ⟨x.b, 0, none⟩)]
def shV : Sh TV := ⟨1, TV.cells, fun _ => rfl, by decide, fun x u hu => by
  simp only [TV.cells, List.mem_cons, List.not_mem_nil, or_false] at hu
  subst hu; rfl⟩
/-- a slice's block is of a type -/
def BT (w : World) (v : Value) (e : TypeId) : Prop := ∀ g, v.ownBlock = some g → ∃ c z, w.heap[g]? = some (.cells c e z)
theorem BT.keep {F : Nat → Prop} {w w' : World} {v : Value} {e : TypeId} (h : BT w v e) (hk : Keep F w w') (hF : ∀ g, v.ownBlock = some g → ¬ F g) : BT w' v e := fun g hg => by
  obtain ⟨c, z, hb⟩ := h g hg
  exact ⟨c, z, hk.blk hb (hF g hg)⟩
theorem BT.below {w w' : World} {v : Value} {e : TypeId} (h : BT w v e) (hb : Below w.heap.size w w') : BT w' v e := h.keep (Keep.ofBelow hb (fun _ => False)) (fun _ _ h => h)
theorem BT.of_row {w : World} {B : Nat} {e : TypeId} {n k : Nat} {v : Value} {xs : List Value} (h : w.ownsRow B e n v k xs) : BT w v e := fun g hg => by
  rcases h.2 with ⟨he, _⟩ | ⟨g', cap, cur, he, hb, hg', _⟩
  · rw [he] at hg; cases hg
  · rw [he] at hg; cases hg; exact ⟨_, _, hg'⟩
structure PV.Is (w : World) (x : PV) : Prop where
  gr : GR shT w (.slice x.ta x.P.tiers.length x.tc) x.P.tiers
  bt : BT w (.slice x.ta x.P.tiers.length x.tc) 103
structure TV.Is (base : Nat) (w : World) (x : TV) : Prop where
  blk : w.heap[x.b]? = some (.cells #[.int .u32 x.T.id, .int .i64 x.T.shift, .slice x.la x.T.L.length x.lc] 64 (0, 0))
  low : base ≤ x.b
  seg : GR shS w (.slice x.la x.T.L.length x.lc) x.T.L
  bt : BT w (.slice x.la x.T.L.length x.lc) 66
/-- the book: plans and tenants -/
structure RB (base : Nat) (w : World) (q : Nat) (pv tv : Value) (ps : List PV) (ts : List TV) : Prop where
  blk : w.heap[q]? = some (.cells #[pv, tv] 30 (0, 0))
  low : base ≤ q
  pr : w.ownsRow base 35 shP.sz pv ps.length (shP.cells ps)
  tr : w.ownsRow base 61 shV.sz tv ts.length (shV.cells ts)
  pis : ∀ x ∈ ps, x.Is w
  tis : ∀ x ∈ ts, x.Is base w
  ids : ts.Pairwise fun a b => a.T.id ≠ b.T.id
def psOf (ps : List PV) : List Pl := ps.map PV.P
def tsOf (ts : List TV) : List Tn := ts.map TV.T
/-- what may be changed: the document's blocks -/
def RF (base : Nat) (w : World) (k : Nat) : Prop := base ≤ k ∧ ∃ c e z, w.heap[k]? = some (.cells c e z) ∧ (e = 30 ∨ e = 35 ∨ e = 61 ∨ e = 64)
theorem RB.below {base : Nat} {w w' : World} {q : Nat} {pv tv : Value} {ps : List PV} {ts : List TV} (h : RB base w q pv tv ps ts) (hb : Below w.heap.size w w') : RB base w' q pv tv ps ts :=
  ⟨(Keep.ofBelow hb (fun _ => False)).blk h.blk (fun h => h), h.low, rowS_below h.pr hb, rowS_below h.tr hb, fun x hx => ⟨(h.pis x hx).gr.below hb, (h.pis x hx).bt.below hb⟩, fun x hx => ⟨(Keep.ofBelow hb (fun _ => False)).blk (h.tis x hx).blk (fun h => h), (h.tis x hx).low, (h.tis x hx).seg.below hb, (h.tis x hx).bt.below hb⟩, h.ids⟩
theorem notmap {w : World} {b : Nat} {al : AL} (hm : MapAt w b al) {c : Array Value} {e : TypeId} {z : Nat × Nat} (h : w.heap[b]? = some (.cells c e z)) : False := by
  obtain ⟨es, k, h1, _⟩ := hm
  rw [h] at h1; cases h1
theorem rowS_mem {w w' : World} {b : Nat} {al : AL} {B : Nat} {e : TypeId} {n k : Nat} {v : Value} {xs : List Value} (h : w.ownsRow B e n v k xs) (hm : MapAt w b al) (hk : Keep (fun i => i = b) w w') : w'.ownsRow B e n v k xs := by
  refine rowS_keep hk h (fun g hg e => ?_)
  subst e
  rcases h.2 with ⟨he, _⟩ | ⟨g', cap, cur, he, hb, hg', _⟩
  · rw [he] at hg; cases hg
  · rw [he] at hg; cases hg
    exact notmap hm hg'
theorem bt_mem {w w' : World} {b : Nat} {al : AL} {v : Value} {e : TypeId} (h : BT w v e) (hm : MapAt w b al) (hk : Keep (fun i => i = b) w w') : BT w' v e :=
  h.keep hk (fun g hg e => by
    obtain ⟨c, z, hb⟩ := h g hg
    subst e
    exact notmap hm hb)
/-- other blocks of the document's are changed: which, their types tell -/
theorem RB.other {base : Nat} {w w' : World} {q : Nat} {pv tv : Value} {ps : List PV} {ts : List TV} {F : Nat → Prop} (h : RB base w q pv tv ps ts) (hk : Keep F w w') (hF : ∀ k, F k → ∀ c e z, w.heap[k]? = some (.cells c e z) → e ≠ 30 ∧ e ≠ 35 ∧ e ≠ 61 ∧ e ≠ 64 ∧ e ≠ 103 ∧ e ≠ 66) : RB base w' q pv tv ps ts := by
  have hrow : ∀ {e : TypeId} {n k : Nat} {v : Value} {xs : List Value}, w.ownsRow base e n v k xs → (∀ g, F g → ∀ c e' z, w.heap[g]? = some (.cells c e' z) → e' ≠ e) → w'.ownsRow base e n v k xs := fun ho hne =>
    rowS_keep hk ho (fun g hg hf => by
      obtain ⟨c, z, hb⟩ := BT.of_row ho g hg
      exact hne g hf c _ z hb rfl)
  have hgr : ∀ {α : Type} {S : Sh α} {v : Value} {L : List α} {e : TypeId}, GR S w v L → BT w v e → (∀ g, F g → ∀ c e' z, w.heap[g]? = some (.cells c e' z) → e' ≠ e) → GR S w' v L ∧ BT w' v e := fun {α S v L e} hg hb hne => by
    have hn : ∀ g, v.ownBlock = some g → ¬ F g := fun g hgv hf => by
      obtain ⟨c, z, hb'⟩ := hb g hgv
      exact hne g hf c _ z hb' rfl
    exact ⟨hg.keep hk (fun _ => hn), hb.keep hk hn⟩
  refine ⟨hk.blk h.blk (fun hf => (hF q hf _ _ _ h.blk).1 rfl), h.low, hrow h.pr (fun g hf c e' z hb => (hF g hf c e' z hb).2.1), hrow h.tr (fun g hf c e' z hb => (hF g hf c e' z hb).2.2.1), fun x hx => ?_, fun x hx => ?_, h.ids⟩
  · obtain ⟨g1, g2⟩ := hgr (h.pis x hx).gr (h.pis x hx).bt (fun g hf c e' z hb => (hF g hf c e' z hb).2.2.2.2.1)
    exact ⟨g1, g2⟩
  · obtain ⟨g1, g2⟩ := hgr (h.tis x hx).seg (h.tis x hx).bt (fun g hf c e' z hb => (hF g hf c e' z hb).2.2.2.2.2)
    exact ⟨hk.blk (h.tis x hx).blk (fun hf => (hF x.b hf _ _ _ (h.tis x hx).blk).2.2.2.1 rfl), (h.tis x hx).low, g1, g2⟩
theorem row_ty {base : Nat} {w w' : World} {F : Nat → Prop} {e : TypeId} {n k : Nat} {v : Value} {xs : List Value} (ho : w.ownsRow base e n v k xs) (hk : Keep F w w') (hne : ∀ g, F g → ∀ c e' z, w.heap[g]? = some (.cells c e' z) → e' ≠ e) : w'.ownsRow base e n v k xs :=
  rowS_keep hk ho (fun g hg hf => by
    obtain ⟨c, z, hb⟩ := BT.of_row ho g hg
    exact hne g hf c _ z hb rfl)
theorem PV.Is.ty {w w' : World} {F : Nat → Prop} {x : PV} (h : x.Is w) (hk : Keep F w w') (hne : ∀ g, F g → ∀ c e' z, w.heap[g]? = some (.cells c e' z) → e' ≠ 103) : x.Is w' := by
  have hn : ∀ g, (Value.slice x.ta x.P.tiers.length x.tc).ownBlock = some g → ¬ F g := fun g hgv hf => by
    obtain ⟨c, z, hb'⟩ := h.bt g hgv
    exact hne g hf c _ z hb' rfl
  exact ⟨h.gr.keep hk (fun _ => hn), h.bt.keep hk hn⟩
theorem TV.Is.ty {base : Nat} {w w' : World} {F : Nat → Prop} {x : TV} (h : x.Is base w) (hk : Keep F w w') (hne : ∀ g, F g → ∀ c e' z, w.heap[g]? = some (.cells c e' z) → e' ≠ 66) (hb : ¬ F x.b) : x.Is base w' := by
  have hn : ∀ g, (Value.slice x.la x.T.L.length x.lc).ownBlock = some g → ¬ F g := fun g hgv hf => by
    obtain ⟨c, z, hb'⟩ := h.bt g hgv
    exact hne g hf c _ z hb' rfl
  exact ⟨hk.blk h.blk hb, h.low, h.seg.keep hk (fun _ => hn), h.bt.keep hk hn⟩
theorem RB.mem {base : Nat} {w w' : World} {q : Nat} {pv tv : Value} {ps : List PV} {ts : List TV} {b : Nat} {al : AL} (h : RB base w q pv tv ps ts) (hm : MapAt w b al) (hk : Keep (fun i => i = b) w w') : RB base w' q pv tv ps ts :=
  ⟨hk.blk h.blk (fun e => by subst e; exact notmap hm h.blk), h.low, rowS_mem h.pr hm hk, rowS_mem h.tr hm hk, fun x hx => ⟨(h.pis x hx).gr.mem hm hk, bt_mem (h.pis x hx).bt hm hk⟩,
   fun x hx => ⟨hk.blk (h.tis x hx).blk (fun e => by have h1 := (h.tis x hx).blk; rw [show x.b = b from e] at h1; exact notmap hm h1), (h.tis x hx).low, (h.tis x hx).seg.mem hm hk, bt_mem (h.tis x hx).bt hm hk⟩, h.ids⟩
theorem MemIs.rf {base : Nat} {w w' : World} {p b1 b2 : Nat} {r : Int} {now was : AL} (h : MemIs w p r b1 b2 now was) (hk : Keep (RF base w) w w') : MemIs w' p r b1 b2 now was :=
  h.keep hk (fun ⟨_, c, e, z, h1, h2⟩ => by
      rw [h.blk] at h1; simp only [Option.some.injEq, Obj.cells.injEq] at h1
      rcases h2 with h2 | h2 | h2 | h2 <;> exact absurd (h1.2.1.trans h2) (by decide))
    (fun ⟨_, c, e, z, h1, _⟩ => notmap h.now h1) (fun ⟨_, c, e, z, h1, _⟩ => notmap h.was h1)
theorem CB.rf {base : Nat} {w w' : World} {p b1 b2 m : Nat} {ps : List Pl} {ts : List Tn} (h : CB w p b1 b2 ps ts m) (hk : Keep (RF base w) w w') : CB w' p b1 b2 ps ts m := by
  obtain ⟨now, h1, h2, h3, h4⟩ := h
  exact ⟨now, h1.rf hk, h2, h3, h4⟩
theorem Keep.rf_below {base : Nat} {w w' : World} (h : Keep (RF base w) w w') (hb : base ≤ w.heap.size) : Below base w w' := h.below hb (fun i hi => hi.1)
end Go.Proofs.YtidppalhjknlfaaGreatDoor
