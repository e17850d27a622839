/- lease.those with Live's closure and with Add's: those that live, those that are gone. -/
import Derived.Test.YtidppalhjknlfaaLeR
import Derived.Maps.AppendAt
import Derived.RangeFuncBox
namespace Go.Proofs.Ytidppalhjknlfaa
open Go.RowKit Go.Shelf
set_option maxRecDepth 100000
set_option linter.unusedVariables false
set_option linter.unusedSimpArgs false
attribute [local go_sem] Oper.semAt_some
theorem infoL : (Try.prog.info? 31).map (fun i => (i.zero, i.size, i.bytes)) = some (some (.agg #[.int .u32 0, .int .i64 0, .int .i64 0, .int .i64 0, .int .i64 0]), 5, 40) := by kernel_rfl
theorem KpL.grown {B : Nat} {W W' : World} {row : Option Nat} {T : TypeId} {v : Value} (hB : Boxed W B T v) (hT : T ≠ 31) (hg : W.grownBy W' row) (hr : ∀ r, row = some r → ∃ c z, W.heap[r]? = some (.cells c 31 z)) : KpL B W W' := by
  refine ⟨hg.size, fun k c e z hk _ he => ?_, fun c e z hk => ⟨c, z, ?_⟩⟩
  · refine (hg.block k (Array.getElem?_eq_some_iff.1 hk).1 (fun e' => ?_)).trans hk
    obtain ⟨c', z', h'⟩ := hr k e'.symm
    rw [hk] at h'; cases h'; exact he rfl
  · refine (hg.block B (Array.getElem?_eq_some_iff.1 hk).1 (fun e' => ?_)).trans hk
    obtain ⟨c', z', h'⟩ := hr B e'.symm
    rw [show W.heap[B]? = _ from hB] at h'; cases h'; exact hT rfl
theorem KpL.set {B : Nat} {W : World} {T : TypeId} {v : Value} (hB : Boxed W B T v) (u : Value) : KpL B W (W.setCell ⟨B, 0, none⟩ u) := by
  have hg := grownBy_setCell' W B u
  refine ⟨hg.size, fun k c e z hk hne _ => (hg.block k (Array.getElem?_eq_some_iff.1 hk).1 (fun e' => hne (by cases e'; rfl))).trans hk, fun c e z hk => ?_⟩
  rw [show W.heap[B]? = _ from hB] at hk; cases hk
  exact ⟨_, _, hB.set u⟩
/-- a lease's box -/
def BoxL (W : World) (B : Nat) (l : Ls) : Prop := W.heap[B]? = some (.cells (c5 l).toArray 31 (0, 0))
theorem BoxL.cell {W : World} {B : Nat} {l : Ls} (h : BoxL W B l) (i : Nat) : W.cell? ⟨B, i, none⟩ = (c5 l)[i]? := by
  rw [blk_cell h]; simp
theorem BoxL.own (B : Nat) (l : Ls) (n₀ : Nat) : OwnFrom n₀ (fun (_ : Unit) W => BoxL W B l) := by
  intro _ X Y row h hg hr
  refine (hg.block B (Array.getElem?_eq_some_iff.1 h).1 (fun e' => ?_)).trans h
  obtain ⟨_, o, ho, hc⟩ := hr B e'.symm
  rw [show X.heap[B]? = _ from h] at ho; cases ho; cases hc
theorem row_below {w w' : World} {B : Nat} {e : TypeId} {n k : Nat} {v : Value} {xs : List Value} (h : w.ownsRow B e n v k xs) (hb : Below w.heap.size w w') : w'.ownsRow B e n v k xs := by
  refine ⟨h.1, ?_⟩
  rcases h.2 with hn | ⟨g, cap, cur, he, hB, hg, rest⟩
  · exact .inl hn
  · exact .inr ⟨g, cap, cur, he, hB, (Keep.ofBelow hb (fun _ => False)).blk hg (fun h => h), rest⟩
theorem row_blk {w : World} {B : Nat} {e : TypeId} {n k : Nat} {v : Value} {xs : List Value} (h : w.ownsRow B e n v k xs) : ∀ r, v.ownBlock = some r → ∃ c z, w.heap[r]? = some (.cells c e z) := by
  intro r hr
  rcases h.2 with ⟨rfl, _⟩ | ⟨g, cap, cur, rfl, hB, hg, rest⟩
  · cases hr
  · cases hr; exact ⟨_, _, hg⟩
theorem others_below {w w' : World} (hb : Below w.heap.size w w') : KeepsOthers w w' := KeepsOthers.of_grownBy (grown_below hb) (fun _ _ h _ => by cases h)
theorem five_new (w : World) (l : Ls) (t : TypeId) : ∀ j u, (c5 l)[j]? = some u → (w.alloc (.cells (c5 l).toArray t)).cell? ((⟨w.heap.size, 0, none⟩ : Addr).add j) = some u := by
  intro j u hj
  rw [Go.WideShapes.add_plain, blk_cell (blk_new w _)]
  simpa using hj
theorem live_snoc (m : Int) (L : List Ls) (l : Ls) : live m (L ++ [l]) = live m L ++ (if m < l.exp then [l] else []) := by
  unfold live; rw [List.filter_append]; congr 1; by_cases h : m < l.exp <;> simp [h]
theorem gone_snoc (m : Int) (L : List Ls) (l : Ls) : gone m (L ++ [l]) = gone m L ++ (if l.exp ≤ m then [l] else []) := by
  unfold gone; rw [List.filter_append]; congr 1; by_cases h : l.exp ≤ m <;> simp [h]
theorem those_any (cf : Nat) (Y : Ls → Bool) (q : Nat) (cv : Value) (F : List Ls → List Ls) (hF0 : F [] = []) (hFs : ∀ L l, F (L ++ [l]) = F L ++ (if Y l = true then [l] else [])) (hFl : ∀ L, (F L).length ≤ L.length)
    (hC : ∀ (l : Ls) (W : World), W.cell? ⟨q, 0, none⟩ = some cv → Calls Try.prog cf #[l.val, .pointer (some ⟨q, 0, none⟩)] W fun e W' => e = .returned (.bool (Y l)) ∧ Below W.heap.size W W')
    (hcf : ∀ args w, (callFunc cf args).run Try.prog w = .ok (.enter cf args) w)
    (p b1 b2 : Nat) (room : Int) (now was : AL) (t : Int) (ht : U32 t) (L : List Ls) (last : Int) (w : World) (hM : MemIs w p room b1 b2 now was) (hSm : Small now) (hN : AL.ND now) (hL : LS now t L last) (hl : L.length ≤ 1000000) (hq : w.cell? ⟨q, 0, none⟩ = some cv) (hqs : q < w.heap.size) :
    Calls Try.prog 22 #[sV p, .int .u32 t, .func (Fn.func cf) #[] #[.pointer (some ⟨q, 0, none⟩)]] w fun e w' => ∃ v, e = .returned (.tuple #[v, .int .i64 0]) ∧ LR w' v (F L) ∧ Below w.heap.size w w' := by
  have HA := Lib.hid fun W => all_any p t W
  have HC := Lib.hid hC
  have e3 : sV p = .iface 24 (.pointer (some ⟨p, 0, none⟩)) := rfl
  obtain ⟨i0, hi, hz0, hz1, hz2⟩ := info_parts infoL
  unfold sV pV at *
  refine (callsIn_wide (n := 9)).1 ?_
  refine callsIn_of_wp_marks Try.func22 rfl trivial ?_ rfl
  simp only [Try.ntmps22, List.size_toArray, List.length_cons, List.length_nil, Nat.reduceAdd, Nat.reduceSub, Array.replicate_succ, Array.replicate_zero, List.push_toArray, List.append_toArray, List.nil_append, List.cons_append]
  gi_wp2_with (refine ⟨trivial, ?_⟩; gi_at_call 33; refine (callsIn_wide.2 (HA.out _)).mono ?_; rintro e w' ⟨rfl, rfl⟩)
  have hw0 := (Below.refl w.heap.size w).alloc (Nat.le_refl _) (.cells #[.func (Fn.func cf) #[] #[.pointer (some ⟨q, 0, none⟩)]] 64)
  obtain ⟨W0, hW0⟩ : ∃ W0, (((((w.alloc (.cells #[.func (Fn.func cf) #[] #[.pointer (some ⟨q, 0, none⟩)]] 64)).alloc (.cells #[.slice none 0 0] 27)).alloc (.cells #[.int .i64 0] 34)).alloc (.cells #[.slice none 0 0] 27)).alloc (.cells #[.iface 24 (.pointer (some ⟨p, 0, none⟩))] 62)).alloc (.cells #[.int .u32 t] 22) = W0 := ⟨_, rfl⟩
  have hsz : W0.heap.size = w.heap.size + 6 := by rw [← hW0]; simp
  have b0 : Boxed W0 w.heap.size 64 (.func (Fn.func cf) #[] #[.pointer (some ⟨q, 0, none⟩)]) := by
    rw [← hW0]; exact (((((Boxed.new w _ (Value.func (Fn.func cf) #[] #[.pointer (some ⟨q, 0, none⟩)])).alloc _).alloc _).alloc _).alloc _).alloc _
  have b1' : Boxed W0 (w.heap.size + 1) 27 (.slice none 0 0) := by
    rw [← hW0]; have h := ((((Boxed.new (w.alloc (.cells #[.func (Fn.func cf) #[] #[.pointer (some ⟨q, 0, none⟩)]] 64)) 27 (.slice none 0 0)).alloc (.cells #[.int .i64 0] 34)).alloc (.cells #[.slice none 0 0] 27)).alloc (.cells #[.iface 24 (.pointer (some ⟨p, 0, none⟩))] 62)).alloc (.cells #[.int .u32 t] 22); simpa only [World.size_alloc] using h
  have b2' : Boxed W0 (w.heap.size + 2) 34 (.int .i64 0) := by
    rw [← hW0]; have h := (((Boxed.new ((w.alloc (.cells #[.func (Fn.func cf) #[] #[.pointer (some ⟨q, 0, none⟩)]] 64)).alloc (.cells #[.slice none 0 0] 27)) 34 (.int .i64 0)).alloc (.cells #[.slice none 0 0] 27)).alloc (.cells #[.iface 24 (.pointer (some ⟨p, 0, none⟩))] 62)).alloc (.cells #[.int .u32 t] 22); simpa only [World.size_alloc] using h
  have b3' : Boxed W0 (w.heap.size + 3) 27 (.slice none 0 0) := by
    rw [← hW0]; have h := ((Boxed.new (((w.alloc (.cells #[.func (Fn.func cf) #[] #[.pointer (some ⟨q, 0, none⟩)]] 64)).alloc (.cells #[.slice none 0 0] 27)).alloc (.cells #[.int .i64 0] 34)) 27 (.slice none 0 0)).alloc (.cells #[.iface 24 (.pointer (some ⟨p, 0, none⟩))] 62)).alloc (.cells #[.int .u32 t] 22); simpa only [World.size_alloc] using h
  have b4' : Boxed W0 (w.heap.size + 4) 62 (.iface 24 (.pointer (some ⟨p, 0, none⟩))) := by
    rw [← hW0]; have h := (Boxed.new ((((w.alloc (.cells #[.func (Fn.func cf) #[] #[.pointer (some ⟨q, 0, none⟩)]] 64)).alloc (.cells #[.slice none 0 0] 27)).alloc (.cells #[.int .i64 0] 34)).alloc (.cells #[.slice none 0 0] 27)) 62 (.iface 24 (.pointer (some ⟨p, 0, none⟩)))).alloc (.cells #[.int .u32 t] 22); simpa only [World.size_alloc] using h
  have b5' : Boxed W0 (w.heap.size + 5) 22 (.int .u32 t) := by
    rw [← hW0]; have h := Boxed.new (((((w.alloc (.cells #[.func (Fn.func cf) #[] #[.pointer (some ⟨q, 0, none⟩)]] 64)).alloc (.cells #[.slice none 0 0] 27)).alloc (.cells #[.int .i64 0] 34)).alloc (.cells #[.slice none 0 0] 27)).alloc (.cells #[.iface 24 (.pointer (some ⟨p, 0, none⟩))] 62)) 22 (.int .u32 t); simpa only [World.size_alloc] using h
  have hbW : Below w.heap.size w W0 := by
    rw [← hW0]; exact ((((((Below.refl _ w).alloc (Nat.le_refl _) _).alloc (by simp) _).alloc (by simp; omega) _).alloc (by simp; omega) _).alloc (by simp; omega) _).alloc (by simp; omega) _
  rw [hW0]
  clear hW0 hw0
  refine wpIn_rangeFunc_ownH rfl (by decide) (gf := 39) (lb := #[.pointer (some ⟨w.heap.size + 4, 0, none⟩), .pointer (some ⟨w.heap.size + 5, 0, none⟩)]) rfl trivial (enters_of Try.func39 (by kernel_rfl) rfl)
    (all1_stops (9 - 1) (by decide) (w.heap.size + 3) p b1 b2 (w.heap.size + 4) (w.heap.size + 5) room now was t ht L last 27 _ W0 (hM.below hbW) hSm hN hL hl b4'.cell b5'.cell b3' (by decide)) KpL.trans (fun W l o o' _ h hc _ => KpL.putObj W l o o' h hc) (Below.refl _ _) (fun _ => rfl)
    (fun pre W => ((∃ v, Boxed W (w.heap.size + 3) 27 v ∧ W.ownsRow w.heap.size 31 5 v (F pre).length (cells5 (F pre)) ∧ True) ∧ (Boxed W w.heap.size 64 (.func (Fn.func cf) #[] #[.pointer (some ⟨q, 0, none⟩)]) ∧ Boxed W (w.heap.size + 1) 27 (.slice none 0 0) ∧ Boxed W (w.heap.size + 2) 34 (.int .i64 0))) ∧ Below w.heap.size w W)
    (fun _ _ _ => False)
    (OwnFrom.and (OwnFrom.and (Own.from (holdsRow_own w.heap.size (w.heap.size + 3) 27 31 5 (fun pre => (F pre).length) (fun pre => cells5 (F pre)) (fun _ _ => True)) _) (OwnFrom.and (Own.from (boxed_own _ _ (fun _ => Value.func (Fn.func cf) #[] #[.pointer (some ⟨q, 0, none⟩)])) _) (OwnFrom.and (Own.from (boxed_own _ _ (fun _ => Value.slice none 0 0)) _) (Own.from (boxed_own _ _ (fun _ => Value.int .i64 0)) _)))) (ownFrom_below (Nat.le_refl _) (by omega)))
    (fun _ _ _ _ _ hs _ _ => hs)
    ⟨⟨⟨_, b3', by rw [hF0]; exact World.ownsRow_nil _ _ _ _, trivial⟩, b0, b1', b2'⟩, hbW⟩
    (fun x a' W => ∃ Bx, w.heap.size + 3 < Bx ∧ BoxL W Bx x ∧ a' = { tmps := #[.iface 24 (.pointer (some ⟨p, 0, none⟩)), .int .u32 t, .func (Fn.func cf) #[] #[.pointer (some ⟨q, 0, none⟩)], undef, undef, .pointer (some ⟨w.heap.size, 0, none⟩), .pointer (some ⟨w.heap.size + 1, 0, none⟩), .pointer (some ⟨w.heap.size + 1 + 1, 0, none⟩), .pointer (some ⟨w.heap.size + 1 + 1 + 1, 0, none⟩), .pointer (some ⟨Bx, 0, none⟩), .int .i64 0, .iface 24 (.pointer (some ⟨p, 0, none⟩)), .int .u32 t, .func (Fn.func 39) #[] #[.pointer (some ⟨w.heap.size + 1 + 1 + 1 + 1, 0, none⟩), .pointer (some ⟨w.heap.size + 1 + 1 + 1 + 1 + 1, 0, none⟩)], x.val, .int .i64 0, undef, undef, undef, undef, undef, undef, undef, undef, undef, undef, undef], defers := [] })
    (fun x a' _ X Y row hs hg hr => by obtain ⟨Bx, h1, h2, h3⟩ := hs; exact ⟨Bx, h1, BoxL.own Bx x _ () X Y row h2 hg hr, h3⟩)
    ?assign ?body ?done ?stop
  case assign =>
    rintro l pre x W K ⟨⟨⟨v, hv, hr, _⟩, bS, bR, bE⟩, hB⟩ hK
    have hz := blk_new W (.cells #[.int .u32 0, .int .i64 0, .int .i64 0, .int .i64 0, .int .i64 0] 31)
    have z0 := blk_cell hz 0
    have z1 := blk_cell hz 1
    have z2 := blk_cell hz 2
    have z3 := blk_cell hz 3
    have z4 := blk_cell hz 4
    have f0 := blk_frozen hz 0
    have f1 := blk_frozen hz 1
    have f2 := blk_frozen hz 2
    have f3 := blk_frozen hz 3
    have f4 := blk_frozen hz 4
    clear hz
    obtain ⟨id, un, ex, dy, mo⟩ := x
    unfold Ls.val
    gi_wp2
    have hsW := hB.size
    exact hK _ _ ((KeepsOthers.alloc _ _).from _) (KpL.below ((Below.refl _ W).alloc (Nat.le_refl _) _)) ⟨⟨⟨v, hv.alloc _, hr.alloc _, trivial⟩, bS.alloc _, bR.alloc _, bE.alloc _⟩, hB.alloc hsW _⟩ ⟨W.heap.size, hv.lt, blk_new W _, rfl⟩
  case body =>
    rintro l pre x a' W hl0 ⟨r, hr0⟩ ⟨⟨⟨v, hv, hr, _⟩, bS, bR, bE⟩, hB⟩ ⟨Bx, hBx, bX, rfl⟩ hlt
    have hc := hv.cell
    have cS := bS.cell
    have hqW : W.cell? ⟨q, 0, none⟩ = some cv := (hB.cell (p := ⟨q, 0, none⟩) hqs).trans hq
    have hpl := hFl pre
    obtain ⟨id, un, ex, dy, mo⟩ := x
    have x0 : W.cell? ⟨Bx, 0, none⟩ = some (.int .u32 id) := bX.cell 0
    have x1 : W.cell? ⟨Bx, 1, none⟩ = some (.int .i64 un) := bX.cell 1
    have x2 : W.cell? ⟨Bx, 2, none⟩ = some (.int .i64 ex) := bX.cell 2
    have x3 : W.cell? ⟨Bx, 3, none⟩ = some (.int .i64 dy) := bX.cell 3
    have x4 : W.cell? ⟨Bx, 4, none⟩ = some (.int .i64 mo) := bX.cell 4
    unfold Ls.val
    have HH := HC.out ⟨id, un, ex, dy, mo⟩ W hqW
    have HF := hFs pre ⟨id, un, ex, dy, mo⟩
    unfold Ls.val at HH
    have hsW := hB.size
    have F0 := Lib.hid fun (w1 : World) (hb1 : Below W.heap.size W w1) => show Boxed w1 (w.heap.size + 3) 27 v from (Keep.ofBelow hb1 (fun _ => False)).blk hv (fun h => h)
    have F1 := Lib.hid fun (w1 : World) (hb1 : Below W.heap.size W w1) => show BoxL w1 Bx ⟨id, un, ex, dy, mo⟩ from (Keep.ofBelow hb1 (fun _ => False)).blk bX (fun h => h)
    have F2 := Lib.hid fun (w1 : World) (hb1 : Below W.heap.size W w1) => show Boxed w1 w.heap.size 64 (.func (Fn.func cf) #[] #[.pointer (some ⟨q, 0, none⟩)]) ∧ Boxed w1 (w.heap.size + 1) 27 (.slice none 0 0) ∧ Boxed w1 (w.heap.size + 2) 34 (.int .i64 0) from ⟨(Keep.ofBelow hb1 (fun _ => False)).blk bS (fun h => h), (Keep.ofBelow hb1 (fun _ => False)).blk bR (fun h => h), (Keep.ofBelow hb1 (fun _ => False)).blk bE (fun h => h)⟩
    have HR := Lib.hid fun (w1 : World) (hb1 : Below W.heap.size W w1) => row_below hr hb1
    have HBW := Lib.hid hB
    have HV := Lib.hid hv
    have hpn : pre.length < 1000000 := by omega
    generalize Y ⟨id, un, ex, dy, mo⟩ = y at HH HF
    clear hv hr bS bR bE hB bX hlt hFl hFs
    cases y with
    | false =>
      have HH := Lib.hid HH
      gi_wp2_with (refine ⟨trivial, ?_⟩; refine (CallsIn.inRound l (callsIn_wide.2 HH.out)).mono ?_; rintro e w1 ⟨rfl, hb1⟩)
      obtain ⟨f1, f2, f3⟩ := F2.out _ hb1
      rw [if_neg (by decide), List.append_nil] at HF
      refine ⟨(others_below hb1).from _, KpL.below hb1, ⟨⟨v, F0.out _ hb1, ?_, trivial⟩, f1, f2, f3⟩, HBW.out.trans (hb1.mono hsW)⟩
      show World.ownsRow _ _ _ _ _ (F (pre ++ [⟨id, un, ex, dy, mo⟩])).length (cells5 (F (pre ++ [⟨id, un, ex, dy, mo⟩])))
      rw [HF]; exact HR.out _ hb1
    | true =>
      have HH := Lib.hid HH
      gi_wp2_with (first
        | (refine ⟨trivial, ?_⟩; refine (CallsIn.inRound l (callsIn_wide.2 HH.out)).mono ?_; rintro e w1 ⟨rfl, hb1⟩
           have hv1 := F0.out _ hb1
           have hc1 := hv1.cell
           have bX1 := F1.out _ hb1
           have y0 : w1.cell? ⟨Bx, 0, none⟩ = some (.int .u32 id) := bX1.cell 0
           have y1 : w1.cell? ⟨Bx, 1, none⟩ = some (.int .i64 un) := bX1.cell 1
           have y2 : w1.cell? ⟨Bx, 2, none⟩ = some (.int .i64 ex) := bX1.cell 2
           have y3 : w1.cell? ⟨Bx, 3, none⟩ = some (.int .i64 dy) := bX1.cell 3
           have y4 : w1.cell? ⟨Bx, 4, none⟩ = some (.int .i64 mo) := bX1.cell 4
           have hrow1 := HR.out _ hb1
           have hsz1 := hb1.size)
        | (gi_at_builtin; refine wpListIn_append_own _ rfl _ _ 27 rfl w.heap.size 31 i0 _ 5 40 Try.underlying27 hi hz0 hz1 hz2 rfl (by decide) _ _ _ rfl (hrow1.alloc _) ⟨w1.heap.size, 0, none⟩ 1 1 (c5 ⟨id, un, ex, dy, mo⟩) rfl rfl (five_new _ ⟨id, un, ex, dy, mo⟩ _) (by simp [c5, Value.oneCell']) (by unfold maxLen; omega) (by omega) (by simp; omega) ?_; intro v' w2 hown' hgrow _; obtain ⟨g', cap', rfl⟩ := ownsRow_succ hown'; obtain ⟨hv1', hv2, hr2, hk2, hb2⟩ := hv1.appended (by decide) hrow1 (by omega) (by omega) hown' hgrow; have hc2 := hv1'.cell; have hf2 := hv1'.frozen))
      have HW1 : Below w.heap.size w w1 := HBW.out.trans (hb1.mono hsW)
      obtain ⟨f1, f2, f3⟩ := F2.out _ hb1
      have hne : ∀ (B : Nat) (T : TypeId) (u : Value), Boxed w1 B T u → T ≠ 31 → Boxed (w2.setCell ⟨w.heap.size + 1 + 1 + 1, 0, none⟩ (.slice (some ⟨g', 0, none⟩) ((F pre).length + 1) cap')) B T u ∨ B = w.heap.size + 1 + 1 + 1 := by
        intro B T u hB hT
        by_cases h : B = w.heap.size + 1 + 1 + 1
        · exact .inr h
        · refine .inl (Boxed.other ?_ h _)
          refine (hB.alloc _).kept hgrow (fun e => ?_)
          obtain ⟨c, z, hk⟩ := row_blk (hrow1.alloc _) B e.symm
          have hx := hB.alloc (.cells #[.int .u32 id, .int .i64 un, .int .i64 ex, .int .i64 dy, .int .i64 mo] 31); have hy := hx.symm.trans hk; simp only [Option.some.injEq, Obj.cells.injEq] at hy; exact hT hy.2.1
      have k1 : KpL (w.heap.size + 3) W w1 := KpL.below hb1
      have k2 := KpL.below (B := w.heap.size + 3) ((Below.refl _ w1).alloc (Nat.le_refl _) (.cells #[.int .u32 id, .int .i64 un, .int .i64 ex, .int .i64 dy, .int .i64 mo] 31))
      have k3 := KpL.grown (hv1.alloc (.cells #[.int .u32 id, .int .i64 un, .int .i64 ex, .int .i64 dy, .int .i64 mo] 31)) (by decide) hgrow (row_blk (hrow1.alloc _))
      have k4 := KpL.set hv1' (.slice (some ⟨g', 0, none⟩) ((F pre).length + 1) cap')
      simp only [if_true] at HF
      refine ⟨((others_below hb1).trans hk2).from _, ((k1.trans k2).trans k3).trans k4, ⟨⟨_, hv2, ?_, trivial⟩, (hne _ _ _ f1 (by decide)).resolve_right (by omega), (hne _ _ _ f2 (by decide)).resolve_right (by omega), (hne _ _ _ f3 (by decide)).resolve_right (by omega)⟩, HW1.trans hb2⟩
      show World.ownsRow _ _ _ _ _ (F (pre ++ [⟨id, un, ex, dy, mo⟩])).length (cells5 (F (pre ++ [⟨id, un, ex, dy, mo⟩])))
      rw [HF, cells5_snoc, List.length_append]
      exact hr2
  case done =>
    rintro D ys W hD rfl ⟨⟨⟨v, hv, hr, _⟩, bS, bR, bE⟩, hB⟩ hK
    obtain ⟨va, vc, rfl⟩ : ∃ a c, v = .slice a (F ys).length c := by
      rcases hr.2 with ⟨rfl, h0⟩ | ⟨g, cap, cur, rfl, _⟩
      · exact ⟨none, 0, by rw [h0]⟩
      · exact ⟨_, _, rfl⟩
    have hc := hv.cell
    have cR := bR.cell
    have fR := bR.frozen
    have cE := bE.cell
    have fE := bE.frozen
    gi_wp2
    obtain ⟨W9, hW9⟩ : ∃ W9, (W.setCell ⟨w.heap.size + 1, 0, none⟩ (.slice va (F ys).length vc)).setCell ⟨w.heap.size + 1 + 1, 0, none⟩ (.int .i64 0) = W9 := ⟨_, rfl⟩
    have c1 : Boxed W9 (w.heap.size + 1) 27 (.slice va (F ys).length vc) := by rw [← hW9]; exact (bR.set _).other (by omega) _
    have c2 : Boxed W9 (w.heap.size + 1 + 1) 34 (.int .i64 0) := by rw [← hW9]; exact (bE.other (by omega) _).set _
    have hK9 : W9.heap[D]? = some (.deferred (some [])) := by rw [← hW9]; exact ((KeepsOthers.setCell _ _ _).trans (KeepsOthers.setCell _ _ _)).same D _ hK rfl
    have hB9 : Below w.heap.size w W9 := by rw [← hW9]; exact (hB.setCell (p := ⟨w.heap.size + 1, 0, none⟩) (by simp) _).setCell (p := ⟨w.heap.size + 1 + 1, 0, none⟩) (by simp; omega) _
    have hr9 : W9.ownsRow w.heap.size 31 5 (.slice va (F ys).length vc) (F ys).length (cells5 (F ys)) := by
      rw [← hW9]
      have e1 : (Value.slice va (F ys).length vc).ownBlock ≠ some (w.heap.size + 1) := fun e => by
        obtain ⟨c, z, hk⟩ := row_blk hr _ e
        have hy := (show W.heap[w.heap.size + 1]? = _ from bR).symm.trans hk; simp only [Option.some.injEq, Obj.cells.injEq] at hy; exact absurd hy.2.1 (by decide)
      have e2 : (Value.slice va (F ys).length vc).ownBlock ≠ some (w.heap.size + 1 + 1) := fun e => by
        obtain ⟨c, z, hk⟩ := row_blk hr _ e
        have hy := (show W.heap[w.heap.size + 2]? = _ from bE).symm.trans hk; simp only [Option.some.injEq, Obj.cells.injEq] at hy; exact absurd hy.2.1 (by decide)
      exact (hr.kept (grownBy_setCell' _ _ _) (.inr e1)).kept (grownBy_setCell' _ _ _) (.inr e2)
    rw [hW9]
    clear hW9 hc cR fR cE fE bR bE bS hv
    refine ⟨by simp, .inl ⟨_, _, rfl, run_takeDeferred hK9, ?_⟩⟩
    have d1 := (c1.kept (grownBy_putObj' W9 D (Obj.deferred none)) (fun e => by simp only [Option.some.injEq] at e; omega)).cell
    have d2 := (c2.kept (grownBy_putObj' W9 D (Obj.deferred none)) (fun e => by simp only [Option.some.injEq] at e; omega)).cell
    refine ⟨_, (by simp [results, Try.results22, go_sem, d1, d2]; rfl), ?_⟩
    exact ⟨_, rfl, LR.of_row (ownsRow_putObj hr9 _ hK9 rfl), hB9.trans (belowK_b (w := w) (Nat.le_refl _) W9 D _ _ (by omega) hK9 rfl rfl)⟩
  case stop =>
    rintro D c pre W _ _ h _
    exact h.elim
theorem those_live (p b1 b2 q : Nat) (room : Int) (now was : AL) (t : Int) (ht : U32 t) (L : List Ls) (last m : Int) (w : World) (hM : MemIs w p room b1 b2 now was) (hSm : Small now) (hN : AL.ND now) (hL : LS now t L last) (hl : L.length ≤ 1000000) (hq : w.cell? ⟨q, 0, none⟩ = some (.int .i64 m)) (hqs : q < w.heap.size) :
    Calls Try.prog 22 #[sV p, .int .u32 t, .func (Fn.func 31) #[] #[.pointer (some ⟨q, 0, none⟩)]] w fun e w' => ∃ v, e = .returned (.tuple #[v, .int .i64 0]) ∧ LR w' v (live m L) ∧ Below w.heap.size w w' :=
  those_any 31 (fun l => decide (m < l.exp)) q (.int .i64 m) (live m) rfl (fun L l => by rw [live_snoc]; congr 1; simp) (fun L => List.length_filter_le _ _) (fun l W h => live_c q m l W h) (enters_of Try.func31 (by kernel_rfl) rfl) p b1 b2 room now was t ht L last w hM hSm hN hL hl hq hqs
theorem those_gone (p b1 b2 q : Nat) (room : Int) (now was : AL) (t : Int) (ht : U32 t) (L : List Ls) (last m : Int) (w : World) (hM : MemIs w p room b1 b2 now was) (hSm : Small now) (hN : AL.ND now) (hL : LS now t L last) (hl : L.length ≤ 1000000) (hq : w.cell? ⟨q, 0, none⟩ = some (.int .i64 m)) (hqs : q < w.heap.size) :
    Calls Try.prog 22 #[sV p, .int .u32 t, .func (Fn.func 23) #[] #[.pointer (some ⟨q, 0, none⟩)]] w fun e w' => ∃ v, e = .returned (.tuple #[v, .int .i64 0]) ∧ LR w' v (gone m L) ∧ Below w.heap.size w w' :=
  those_any 23 (fun l => decide (l.exp ≤ m)) q (.int .i64 m) (gone m) rfl (fun L l => by rw [gone_snoc]; congr 1; simp) (fun L => List.length_filter_le _ _) (fun l W h => gone_c q m l W h) (enters_of Try.func23 (by kernel_rfl) rfl) p b1 b2 room now was t ht L last w hM hSm hN hL hl hq hqs
end Go.Proofs.Ytidppalhjknlfaa
