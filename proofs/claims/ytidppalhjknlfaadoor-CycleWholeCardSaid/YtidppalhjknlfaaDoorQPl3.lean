/- plan.Check. -/
import Derived.Test.YtidppalhjknlfaaDoorQPl2
namespace Go.Proofs.YtidppalhjknlfaaDoor
open Go.RowKit Go.Shelf
set_option maxRecDepth 100000
set_option maxHeartbeats 1000000
set_option linter.unusedVariables false
set_option linter.unusedSimpArgs false
attribute [local go_sem] Oper.semAt_some
def Pl.num (p : Pl) (x : Fin 5) : Int := match x with | 0 => p.daily | 1 => p.monthly | 2 => p.over | 3 => p.roll | 4 => p.base
theorem Pl.num_cell (p : Pl) (v : Value) (x : Fin 5) : (p.cells v)[x.val + 1]? = some (.int .i64 (p.num x)) := by
  match x with
  | 0 => rfl
  | 1 => rfl
  | 2 => rfl
  | 3 => rfl
  | 4 => rfl
def goodN (p : Pl) (x : Fin 5) : Bool := decide (0 ≤ p.num x ∧ p.num x ≤ mostN x)
def plchk (p : Pl) : Bool := NUMS.all (goodN p) && (decide (0 < p.id) && tchk p.tiers)
theorem NUMS_all : ∀ x : Fin 5, x ∈ NUMS := by decide
theorem pcheck_any (p : Pl) (v : Value) (w : World) (hv : GR shT w v p.tiers) :
    Calls Tryd.prog 56 #[p.val v] w fun e w' => e = .returned (.bool (plchk p)) ∧ Below w.heap.size w w' := by
  obtain ⟨va, vc, rfl, _, _, _⟩ := hv.shape
  have HA := Lib.hid numbers_any
  obtain ⟨L, hL⟩ : ∃ L, L = p.tiers := ⟨_, rfl⟩
  have hcells := Pl.num_cell p (.slice va L.length vc)
  obtain ⟨C, hC⟩ : ∃ C, C = plchk p := ⟨_, rfl⟩
  rw [← hC]
  have HC := Lib.hid hC
  have HV := Lib.hid hv
  have HCE := Lib.hid hcells
  obtain ⟨G, hG⟩ : ∃ G : Fin 5 → Bool, G = goodN p := ⟨_, rfl⟩
  have HG := Lib.hid hG
  obtain ⟨N, hN⟩ : ∃ N : Fin 5 → Int, N = p.num := ⟨_, rfl⟩
  have HN := Lib.hid hN
  have HL := Lib.hid hL
  rw [← hL] at HV ⊢
  clear hC hv hcells hG hN hL
  obtain ⟨id, da, mo, ov, ro, ba, ti⟩ := p
  unfold Pl.val
  refine (callsIn_wide (n := 9)).1 ?_
  refine callsIn_of_wp_marks Tryd.func56 rfl trivial ?_ rfl
  simp only [Tryd.ntmps56, List.size_toArray, List.length_cons, List.length_nil, Nat.reduceAdd, Nat.reduceSub, Array.replicate_succ, Array.replicate_zero, List.push_toArray, List.append_toArray, List.nil_append, List.cons_append]
  gi_wp2_with (refine ⟨trivial, ?_⟩; gi_at_call 55; refine (callsIn_wide.2 (HA.out _ _)).mono ?_; rintro e w' ⟨rfl, rfl⟩)
  have q1 := blk_alloc (blk_alloc (blk_new w (.cells #[.int .u32 id, .int .i64 da, .int .i64 mo, .int .i64 ov, .int .i64 ro, .int .i64 ba, .slice va L.length vc] 48)) (.cells #[.bool false] 4)) (.cells #[.pointer (some ⟨w.heap.size, 0, none⟩)] 113)
  have q2 := blk_alloc (blk_newAt (w := w.alloc (.cells #[.int .u32 id, .int .i64 da, .int .i64 mo, .int .i64 ov, .int .i64 ro, .int .i64 ba, .slice va L.length vc] 48)) (k := w.heap.size + 1) (by simp) (.cells #[.bool false] 4)) (.cells #[.pointer (some ⟨w.heap.size, 0, none⟩)] 113)
  have q3 := blk_newAt (w := (w.alloc (.cells #[.int .u32 id, .int .i64 da, .int .i64 mo, .int .i64 ov, .int .i64 ro, .int .i64 ba, .slice va L.length vc] 48)).alloc (.cells #[.bool false] 4)) (k := w.heap.size + 1 + 1) (by simp) (.cells #[.pointer (some ⟨w.heap.size, 0, none⟩)] 113)
  have hb0 : Below w.heap.size w (((w.alloc (.cells #[.int .u32 id, .int .i64 da, .int .i64 mo, .int .i64 ov, .int .i64 ro, .int .i64 ba, .slice va L.length vc] 48)).alloc (.cells #[.bool false] 4)).alloc (.cells #[.pointer (some ⟨w.heap.size, 0, none⟩)] 113)) := (((Below.refl _ w).alloc (Nat.le_refl _) _).alloc (by simp) _).alloc (by simp; omega) _
  obtain ⟨W0, hW0⟩ : ∃ W0, ((w.alloc (.cells #[.int .u32 id, .int .i64 da, .int .i64 mo, .int .i64 ov, .int .i64 ro, .int .i64 ba, .slice va L.length vc] 48)).alloc (.cells #[.bool false] 4)).alloc (.cells #[.pointer (some ⟨w.heap.size, 0, none⟩)] 113) = W0 := ⟨_, rfl⟩
  have hsz : W0.heap.size = w.heap.size + 3 := by rw [← hW0]; simp
  rw [hW0] at q1 q2 q3 hb0 ⊢
  clear hW0
  refine wpIn_rangeFunc_ownH rfl (by decide) (gf := 70) (lb := #[.pointer (some ⟨w.heap.size + 1 + 1, 0, none⟩)]) rfl trivial (enters_of Tryd.func70 (by kernel_rfl) rfl)
    (nums1_stops (9 - 1) (by decide) w.heap.size (w.heap.size + 1 + 1) W0 q3) KpN.trans (fun W l o o' _ h hc _ => KpN.putObj W l o o' h hc) (Below.refl _ _) (fun _ => rfl)
    (fun pre W => ((W.heap[w.heap.size]? = some (.cells #[.int .u32 id, .int .i64 da, .int .i64 mo, .int .i64 ov, .int .i64 ro, .int .i64 ba, .slice va L.length vc] 48 (0, 0)) ∧ W.heap[w.heap.size + 1]? = some (.cells #[.bool false] 4 (0, 0))) ∧ (∀ x ∈ pre, G x = true)) ∧ Below w.heap.size w W)
    (fun c pre W => (W.heap[w.heap.size + 1]? = some (.cells #[.bool false] 4 (0, 0)) ∧ (c = .ret ∧ ∃ x ∈ pre, G x = false)) ∧ Below w.heap.size w W)
    (OwnFrom.and (OwnFrom.and (OwnFrom.and (blk_own _ _ _ _) (blk_own _ _ _ _)) (pure_own (fun pre : List (Fin 5) => ∀ x ∈ pre, G x = true) _)) (ownFrom_below (Nat.le_refl _) (by omega)))
    (fun c => OwnFrom.and (OwnFrom.and (blk_own _ _ _ _) (pure_own (fun pre : List (Fin 5) => c = .ret ∧ ∃ x ∈ pre, G x = false) _)) (ownFrom_below (Nat.le_refl _) (by omega)))
    ⟨⟨⟨q1, q2⟩, by simp⟩, hb0⟩
    (fun x a' _ => a' = { tmps := #[.agg #[.int .u32 id, .int .i64 da, .int .i64 mo, .int .i64 ov, .int .i64 ro, .int .i64 ba, .slice va L.length vc], .pointer (some ⟨w.heap.size, 0, none⟩), .pointer (some ⟨w.heap.size + 1, 0, none⟩), .pointer (some ⟨w.heap.size, x.val + 1, none⟩), .int .i64 (mostN x), .func (Fn.func 70) #[] #[.pointer (some ⟨w.heap.size + 1 + 1, 0, none⟩)], .pointer (some ⟨w.heap.size, x.val + 1, none⟩), .int .i64 (mostN x), undef, undef, undef, undef, undef, undef, undef, undef, undef, undef, undef, undef, undef, undef, undef, undef, undef, undef, undef], defers := [] })
    (fun _ _ _ _ _ _ hs _ _ => hs)
    ?assign ?body ?done ?stop
  case assign =>
    rintro l pre x W K hI hK
    gi_wp2
    exact hK _ _ (KeepsFrom.refl _ _) (KpN.below (Below.refl _ _)) hI rfl
  case body =>
    rintro l pre x a' W hl0 ⟨r, hr0⟩ ⟨⟨⟨h1, h2⟩, h3⟩, hB⟩ rfl hlt
    have hc : W.cell? ⟨w.heap.size, x.val + 1, none⟩ = some (.int .i64 (N x)) := by
      rw [blk_cell h1, HN.out]
      have := HCE.out x
      simp only [Pl.cells] at this
      simpa using this
    have hgx : G x = decide (0 ≤ N x ∧ N x ≤ mostN x) := by rw [HG.out, HN.out]; rfl
    have hf := blk_cell h2 0
    have hz := blk_frozen h2 0
    obtain ⟨n, hn⟩ : ∃ n, n = N x := ⟨_, rfl⟩
    obtain ⟨m, hm⟩ : ∃ m, m = mostN x := ⟨_, rfl⟩
    rw [← hn] at hc
    rw [← hn, ← hm] at hgx
    rw [← hm]
    have H1 := Lib.hid h1
    have H2 := Lib.hid h2
    have H3 := Lib.hid h3
    have HB := Lib.hid hB
    clear hn hm h1 h2 h3 hB
    by_cases hg : 0 ≤ n ∧ n ≤ m
    · rw [decide_eq_true hg] at hgx
      have HGX := Lib.hid hgx
      have i1 : ¬ n < 0 := by omega
      have i2 : ¬ n > m := by omega
      clear hg hgx
      gi_wp2
      exact ⟨KeepsFrom.refl _ _, KpN.below (Below.refl _ _), ⟨⟨H1.out, H2.out⟩, fun y hy => by
        rcases List.mem_append.1 hy with hy | hy
        · exact H3.out y hy
        · obtain rfl := List.mem_singleton.1 hy; exact HGX.out⟩, HB.out⟩
    · rw [decide_eq_false hg] at hgx
      have HGX := Lib.hid hgx
      have hgg : n < 0 ∨ (¬ n < 0 ∧ n > m) := by omega
      clear hg hgx
      rcases hgg with i1 | ⟨i1, i2⟩
      all_goals
        gi_wp2
        exact ⟨(KeepsOthers.setCell _ _ _).from _, ⟨blk_setCell H2.out 0 _, rfl, x, by simp, HGX.out⟩, HB.out.setCell (p := ⟨w.heap.size + 1, 0, none⟩) (by simp) _⟩
  case done =>
    rintro D ys W hD rfl ⟨⟨⟨h1, h2⟩, h3⟩, hB⟩ hK
    have e0 := blk_cell h1 0
    have e6 := blk_cell h1 6
    have f0 := blk_cell h2 0
    have g0 := blk_frozen h2 0
    have HT := Lib.hid (tcheck_any _ L W (HV.out.below (hB.mono (Nat.le_refl _))))
    have hall : NUMS.all G = true := List.all_eq_true.2 h3
    have hCC : C = (decide (0 < id) && tchk L) := by rw [HC.out, HL.out]; unfold plchk; rw [← HG.out, hall, Bool.true_and]
    obtain ⟨T, hT⟩ : ∃ T, T = tchk L := ⟨_, rfl⟩
    rw [← hT] at hCC HT
    have HK := Lib.hid hK
    have HB := Lib.hid hB
    have H2 := Lib.hid h2
    clear hT hall h1 h2 h3 hB hK
    by_cases hid : 0 < id
    · rw [decide_eq_true hid, Bool.true_and] at hCC
      have i1 : id > 0 := hid
      subst hCC
      clear hid HC
      gi_wp2_with (refine ⟨trivial, ?_⟩; gi_at_call 71; refine (callsIn_wide.2 HT.out).mono ?_; rintro e w' ⟨rfl, hb⟩
                   have HB1 := Lib.hid hb
                   have f1 := blk_cell ((Keep.ofBelow hb (fun _ => False)).blk H2.out (fun h => h)) 0
                   have g1 := blk_frozen ((Keep.ofBelow hb (fun _ => False)).blk H2.out (fun h => h)) 0)
      have hK1 : w'.heap[D]? = some (.deferred (some [])) := (Keep.ofBelow HB1.out (fun _ => False)).blk HK.out (fun h => h)
      have hk2 : Boxed w' (w.heap.size + 1) 4 (.bool false) := (Keep.ofBelow HB1.out (fun _ => False)).blk H2.out (fun h => h)
      have hK2 : (w'.setCell ⟨w.heap.size + 1, 0, none⟩ (.bool C)).heap[D]? = some (.deferred (some [])) := (KeepsOthers.setCell _ _ _).same D _ hK1 rfl
      have hbx := hk2.set (.bool C)
      have hbb : Below w.heap.size w (w'.setCell ⟨w.heap.size + 1, 0, none⟩ (.bool C)) := (HB.out.trans (HB1.out.mono HB.out.size)).setCell (p := ⟨w.heap.size + 1, 0, none⟩) (by simp) _
      refine ⟨by simp, .inl ⟨_, _, rfl, run_takeDeferred hK2, ?_⟩⟩
      have d1 := (hbx.kept (grownBy_putObj' _ D (Obj.deferred none)) (fun e => by simp only [Option.some.injEq] at e; omega)).cell
      refine ⟨_, (by simp [results, Tryd.results56, go_sem, d1]; rfl), ?_⟩
      exact ⟨rfl, hbb.trans (belowK_b (w := w) (Nat.le_refl _) _ D _ _ (by omega) hK2 rfl rfl)⟩
    · rw [decide_eq_false hid, Bool.false_and] at hCC
      have i1 : ¬ id > 0 := hid
      subst hCC
      clear hid HC
      gi_wp2_with (refine ⟨trivial, ?_⟩)
      have hk2 : Boxed W (w.heap.size + 1) 4 (.bool false) := H2.out
      have hK2 : (W.setCell ⟨w.heap.size + 1, 0, none⟩ (.bool false)).heap[D]? = some (.deferred (some [])) := (KeepsOthers.setCell _ _ _).same D _ HK.out rfl
      have hbx := hk2.set (.bool false)
      have hbb : Below w.heap.size w (W.setCell ⟨w.heap.size + 1, 0, none⟩ (.bool false)) := HB.out.setCell (p := ⟨w.heap.size + 1, 0, none⟩) (by simp) _
      refine ⟨by simp, .inl ⟨_, _, rfl, run_takeDeferred hK2, ?_⟩⟩
      have d1 := (hbx.kept (grownBy_putObj' _ D (Obj.deferred none)) (fun e => by simp only [Option.some.injEq] at e; omega)).cell
      refine ⟨_, (by simp [results, Tryd.results56, go_sem, d1]; rfl), ?_⟩
      exact ⟨rfl, hbb.trans (belowK_b (w := w) (Nat.le_refl _) _ D _ _ (by omega) hK2 rfl rfl)⟩
  case stop =>
    rintro D c pre W hD hsp ⟨⟨h2, rfl, x, hx, hgx⟩, hB⟩ hK
    have hCC : C = false := by
      rw [HC.out]
      unfold plchk
      rw [← HG.out]
      have : NUMS.all G = false := by
        rw [List.all_eq_false]
        exact ⟨x, NUMS_all x, by rw [hgx]; decide⟩
      rw [this, Bool.false_and]
    have hb2 : Boxed W (w.heap.size + 1) 4 (.bool false) := h2
    gi_wp2
    refine ⟨by simp, .inl ⟨_, _, rfl, run_takeDeferred hK, ?_⟩⟩
    have d1 := (hb2.kept (grownBy_putObj' W D (Obj.deferred none)) (fun e => by simp only [Option.some.injEq] at e; omega)).cell
    refine ⟨_, (by simp [results, Tryd.results56, go_sem, d1]; rfl), ?_⟩
    exact ⟨by rw [hCC], hB.trans (belowK_b (w := w) (Nat.le_refl _) W D _ _ (by omega) hK rfl rfl)⟩
end Go.Proofs.YtidppalhjknlfaaDoor
