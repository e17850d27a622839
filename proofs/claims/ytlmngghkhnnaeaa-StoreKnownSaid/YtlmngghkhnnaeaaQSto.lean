/- A store in memory; the walks of Dead, Root, Left, alive. -/
import Derived.Test.YtlmngghkhnnaeaaQMSt2
import Derived.Test.YtlmngghkhnnaeaaQMReg
namespace Go.Proofs.Ytlmngghkhnnaeaa
open Go.RowKit
set_option maxRecDepth 100000
set_option linter.unusedVariables false
set_option linter.unusedSimpArgs false
/-- a store: the change, what was ahead of it, its marks, its disk -/
structure SS where
  st : St
  was : St
  marks : List St
  head : Int
  stamp : Int
  dead : Bool
  D : DS
/-- where it lies -/
structure SM where
  p : Nat
  now : StM
  wasM : StM
  mV : Value
  mm : List StM
  pd : Nat
  bl : Nat
  bw : Nat
  ov : Value
def sArr (M : SM) (S : SS) : Array Value := #[.int .i64 S.st.root, .slice (some ⟨M.now.bt, 0, none⟩) S.st.taken.length M.now.ct, .slice (some ⟨M.now.bh, 0, none⟩) S.st.held.length M.now.ch, .map (some M.now.bf), .bool S.st.touched,
  dV M.pd, .int .i64 S.was.root, .slice (some ⟨M.wasM.bt, 0, none⟩) S.was.taken.length M.wasM.ct, .slice (some ⟨M.wasM.bh, 0, none⟩) S.was.held.length M.wasM.ch, .map (some M.wasM.bf), .bool S.was.touched,
  M.mV, .int .i64 S.head, .int .u64 S.stamp, .bool S.dead]
def mkCells (mm : List StM) (l : List St) : List Value := (List.zipWith stCells mm l).flatten
structure SIs (w : World) (V : Nat → Prop) (M : SM) (S : SS) : Prop where
  blk : w.heap[M.p]? = some (.cells (sArr M S) 62 (0, 0))
  now : StIs w V M.now S.st
  was : StIs w V M.wasM S.was
  mrow : w.ownsRow 0 59 5 M.mV S.marks.length (mkCells M.mm S.marks)
  mlen : M.mm.length = S.marks.length
  mks : ∀ (i : Nat) m s, M.mm[i]? = some m → S.marks[i]? = some s → StIs w V m s ∧ s.taken.length = S.st.taken.length
  disk : DiskIs w M.pd M.bl M.bw M.ov S.D
  nwas : S.was.taken.length = S.st.taken.length
  ndisk : S.D.L.length = S.st.taken.length
  sep : ∀ i, M.now.blk i → ¬ M.wasM.blk i ∧ (∀ m ∈ M.mm, ¬ m.blk i) ∧ i ≠ M.bw
  sepw : ∀ i, (M.wasM.blk i ∨ ∃ m ∈ M.mm, m.blk i) → i ≠ M.bw
  stamp : 0 ≤ S.stamp ∧ S.stamp ≤ 18446744073709551615
  head : -1 ≤ S.head ∧ S.head ≤ 1
/-- all that it is made of, but for bytes -/
def SM.foot (M : SM) (i : Nat) : Prop := i = M.p ∨ M.now.blk i ∨ M.wasM.blk i ∨ (∃ m ∈ M.mm, m.blk i) ∨ M.mV.ownBlock = some i ∨ DF M.pd M.bl M.bw M.ov i
theorem zip_get {α β : Type} {l : List α} {r : List β} (hl : l.length = r.length) {m : α} (hm : m ∈ l) : ∃ (i : Nat) (s : β), l[i]? = some m ∧ r[i]? = some s := by
  obtain ⟨i, hi⟩ := List.mem_iff_getElem?.1 hm
  have h1 := (List.getElem?_eq_some_iff.1 hi).1
  exact ⟨i, _, hi, List.getElem?_eq_getElem (by omega)⟩
theorem row_kept {F : Nat → Prop} {w w' : World} {B : Nat} {e : TypeId} {n k : Nat} {v : Value} {xs : List Value} (h : w.ownsRow B e n v k xs) (hk : Keep F w w') (hF : ∀ i, v.ownBlock = some i → ¬ F i) : w'.ownsRow B e n v k xs := by
  refine ⟨h.1, ?_⟩
  rcases h.2 with hn | ⟨g, cap, cur, he, hB, hg, rest⟩
  · exact .inl hn
  · exact .inr ⟨g, cap, cur, he, hB, hk.blk hg (hF g (by rw [he]; rfl)), rest⟩
theorem SIs.keep {F V : Nat → Prop} {w w' : World} {M : SM} {S : SS} (h : SIs w V M S) (hk : Keep F w w') (hF : ∀ i, M.foot i → ¬ F i) (hB : ∀ i c z, w.heap[i]? = some (.cells c 5 z) → ¬ F i) : SIs w' V M S :=
  { h with
    blk := hk.blk h.blk (hF _ (.inl rfl))
    now := h.now.keepB hk (fun i hi => hF i (.inr (.inl hi))) hB
    was := h.was.keepB hk (fun i hi => hF i (.inr (.inr (.inl hi)))) hB
    mrow := row_kept h.mrow hk (fun i hi => hF i (.inr (.inr (.inr (.inr (.inl hi))))))
    mks := fun i m s hm hs => ⟨(h.mks i m s hm hs).1.keepB hk (fun j hj => hF j (.inr (.inr (.inr (.inl ⟨m, List.mem_of_getElem? hm, hj⟩))))) hB, (h.mks i m s hm hs).2⟩
    disk := h.disk.keep hk (fun i hi => hF i (.inr (.inr (.inr (.inr (.inr hi)))))) hB }
theorem SIs.below {V : Nat → Prop} {w w' : World} {M : SM} {S : SS} (h : SIs w V M S) (hb : Below w.heap.size w w') : SIs w' V M S :=
  h.keep (Keep.ofBelow hb (fun _ => False)) (fun _ _ h => h) (fun _ _ _ _ h => h)
theorem SIs.lt {V : Nat → Prop} {w : World} {M : SM} {S : SS} (h : SIs w V M S) : ∀ i, M.foot i → i < w.heap.size := by
  rintro i (rfl | hi | hi | ⟨m, hm, hi⟩ | hi | hi)
  · exact blk_lt h.blk
  · exact h.now.lt i hi
  · exact h.was.lt i hi
  · obtain ⟨k, s, h1, h2⟩ := zip_get h.mlen hm
    exact (h.mks k m s h1 h2).1.lt i hi
  · obtain ⟨c, z, h'⟩ := row_blk h.mrow i hi
    exact blk_lt h'
  · exact h.disk.lt i hi
/-- no block of it holds bytes -/
theorem SIs.nbytes {V : Nat → Prop} {w : World} {M : SM} {S : SS} (h : SIs w V M S) : ∀ i c z, w.heap[i]? = some (.cells c 5 z) → ¬ M.foot i := by
  rintro i c z hc (rfl | hi | hi | ⟨m, hm, hi⟩ | hi | hi)
  · rw [h.blk] at hc; cases hc
  · exact h.now.nbytes i c z hc hi
  · exact h.was.nbytes i c z hc hi
  · obtain ⟨k, s, h1, h2⟩ := zip_get h.mlen hm
    exact (h.mks k m s h1 h2).1.nbytes i c z hc hi
  · obtain ⟨c', z', h'⟩ := row_blk h.mrow i hi
    rw [hc] at h'; cases h'
  · exact h.disk.not_bytes i c z hc hi
def pS (p : Nat) : Value := .pointer (some ⟨p, 0, none⟩)
/-- is it dead? -/
def SS.dd (S : SS) : Bool := S.dead || S.D.dead
theorem sdead_nil (w : World) : Calls Try.prog 24 #[.pointer none] w fun e w' => e = .returned (.bool false) ∧ w = w' := by
  go_enter Try.func24, Try.ntmps24
  go_wp2
  go_ret
  exact ⟨rfl, rfl⟩
theorem sdead_any {V : Nat → Prop} {M : SM} {S : SS} (w : World) (h : SIs w V M S) : Calls Try.prog 24 #[pS M.p] w fun e w' => e = .returned (.bool S.dd) ∧ w = w' := by
  have c5 : w.cell? ⟨M.p, 5, none⟩ = some (dV M.pd) := blk_cell h.blk 5
  have c14 : w.cell? ⟨M.p, 14, none⟩ = some (.bool S.dead) := blk_cell h.blk 14
  have HD := Lib.hid (dead_any w h.disk)
  unfold SS.dd
  obtain ⟨x, hx⟩ : ∃ x, x = S.dead := ⟨_, rfl⟩
  obtain ⟨y, hy⟩ : ∃ y, y = S.D.dead := ⟨_, rfl⟩
  rw [← hx] at c14 ⊢
  rw [← hy] at HD ⊢
  obtain ⟨p, hp⟩ : ∃ p, p = M.p := ⟨_, rfl⟩
  obtain ⟨pd, hpd⟩ : ∃ pd, pd = M.pd := ⟨_, rfl⟩
  rw [← hp] at c5 c14 ⊢
  rw [← hpd] at c5 HD
  unfold dV at c5 HD
  unfold pS
  clear h hx hy hp hpd
  cases x with
  | true =>
    go_enter Try.func24, Try.ntmps24
    go_wp2
    go_ret
    exact ⟨rfl, rfl⟩
  | false =>
    go_enter Try.func24, Try.ntmps24
    go_wp2_with (go_at_call 43; refine HD.out.mono ?_; rintro e w1 ⟨rfl, rfl⟩)
    go_ret
    exact ⟨rfl, rfl⟩
theorem alive_nil (f : Value) (w : World) : Calls Try.prog 29 #[.pointer none, f] w fun e w' => e = .returned (.int .i64 8) ∧ w = w' := by
  go_enter Try.func29, Try.ntmps29
  go_wp2
  go_ret
  exact ⟨rfl, rfl⟩
theorem alive_no {V : Nat → Prop} {M : SM} {S : SS} (f : Value) (w : World) (h : SIs w V M S) (hd : S.dd = true) : Calls Try.prog 29 #[pS M.p, f] w fun e w' => e = .returned (.int .i64 9) ∧ w = w' := by
  have HD := Lib.hid (sdead_any w h)
  rw [hd] at HD
  unfold pS at HD ⊢
  clear h hd
  go_enter Try.func29, Try.ntmps29
  go_wp2_with (go_at_call 24; refine HD.out.mono ?_; rintro e w1 ⟨rfl, rfl⟩)
  go_ret
  exact ⟨rfl, rfl⟩
theorem alive_yes {V : Nat → Prop} {M : SM} {S : SS} (cf : Nat) (caps : Array Value) (hcf : ∀ args w, (callFunc cf args).run Try.prog w = .ok (.enter cf args) w) (R : Int → World → Prop) (w : World) (h : SIs w V M S) (hd : S.dd = false)
    (hC : Calls Try.prog cf caps w fun e w' => ∃ x, e = .returned (.int .i64 x) ∧ R x w') : Calls Try.prog 29 #[pS M.p, .func (Fn.func cf) #[] caps] w fun e w' => ∃ x, e = .returned (.int .i64 x) ∧ R x w' := by
  have HD := Lib.hid (sdead_any w h)
  have HC := Lib.hid hC
  rw [hd] at HD
  unfold pS at HD ⊢
  clear h hd hC
  go_enter Try.func29, Try.ntmps29
  go_wp2_with (go_at_call 24; refine HD.out.mono ?_; rintro e w1 ⟨rfl, rfl⟩)
  refine HC.out.mono ?_
  rintro e w1 ⟨x, rfl, hR⟩
  have HR := Lib.hid hR
  clear hR
  go_wp2
  go_ret
  exact ⟨x, rfl, HR.out⟩
theorem sroot_nil (w : World) : Calls Try.prog 20 #[.pointer none] w fun e w' => e = .returned (.int .i64 0) ∧ w = w' := by
  go_enter Try.func20, Try.ntmps20
  go_wp2
  go_ret
  exact ⟨rfl, rfl⟩
theorem sroot_any {V : Nat → Prop} {M : SM} {S : SS} (w : World) (h : SIs w V M S) : Calls Try.prog 20 #[pS M.p] w fun e w' => e = .returned (.int .i64 (if S.dd = true then 0 else S.st.root)) ∧ w = w' := by
  have HD := Lib.hid (sdead_any w h)
  have c0 : w.cell? ⟨M.p, 0, none⟩ = some (.int .i64 S.st.root) := blk_cell h.blk 0
  obtain ⟨x, hx⟩ : ∃ x, x = S.dd := ⟨_, rfl⟩
  rw [← hx] at HD ⊢
  unfold pS at HD ⊢
  clear h hx
  cases x with
  | true =>
    go_enter Try.func20, Try.ntmps20
    go_wp2_with (go_at_call 24; refine HD.out.mono ?_; rintro e w1 ⟨rfl, rfl⟩)
    go_ret
    exact ⟨rfl, rfl⟩
  | false =>
    go_enter Try.func20, Try.ntmps20
    go_wp2_with (go_at_call 24; refine HD.out.mono ?_; rintro e w1 ⟨rfl, rfl⟩)
    go_ret
    exact ⟨rfl, rfl⟩
theorem sleft_nil (w : World) : Calls Try.prog 17 #[.pointer none] w fun e w' => e = .returned (.int .i64 0) ∧ w = w' := by
  go_enter Try.func17, Try.ntmps17
  go_wp2
  go_ret
  exact ⟨rfl, rfl⟩
def leftN (S : SS) : Nat := if S.dd = true then 0 else (freeL S.st.taken S.st.held).length
theorem sleft_any {V : Nat → Prop} {M : SM} {S : SS} (w : World) (h : SIs w V M S) : Calls Try.prog 17 #[pS M.p] w fun e w' => e = .returned (.int .i64 (leftN S)) ∧ Below w.heap.size w w' := by
  have HD := Lib.hid (sdead_any w h)
  have HF := Lib.hid (free_any M.p M.now.bt M.now.ct M.now.bh M.now.ch S.st.taken S.st.held w (blk_cell h.blk 1) (blk_cell h.blk 2) h.now.t h.now.h h.now.hi (by have := h.now.lo; omega) h.now.len)
  unfold leftN
  obtain ⟨L, hL⟩ : ∃ L, L = freeL S.st.taken S.st.held := ⟨_, rfl⟩
  obtain ⟨x, hx⟩ : ∃ x, x = S.dd := ⟨_, rfl⟩
  rw [← hx] at HD ⊢
  rw [← hL] at HF ⊢
  unfold pS at HD ⊢
  clear h hx hL
  cases x with
  | true =>
    go_enter Try.func17, Try.ntmps17
    go_wp2_with (go_at_call 24; refine HD.out.mono ?_; rintro e w1 ⟨rfl, rfl⟩)
    go_ret
    exact ⟨rfl, Below.refl _ _⟩
  | false =>
    go_enter Try.func17, Try.ntmps17
    go_wp2_with (first
      | (go_at_call 24; refine HD.out.mono ?_; rintro e w1 ⟨rfl, rfl⟩)
      | (go_at_call 34; refine HF.out.mono ?_; rintro e w1 ⟨v, rfl, hr, hb⟩
         obtain ⟨va, vc, rfl⟩ : ∃ a c, v = Value.slice a L.length c := by
           rcases hr.2 with ⟨rfl, h0⟩ | ⟨g, cap, cur, rfl, _⟩
           · exact ⟨none, 0, by rw [h0]⟩
           · exact ⟨_, _, rfl⟩
         have HB := Lib.hid hb
         clear hr hb))
    go_ret
    exact ⟨by simp, HB.out⟩
end Go.Proofs.Ytlmngghkhnnaeaa
