/- The walks of a store's Back and Abort. The walk of a store's Read: its closure. -/
import Derived.Test.YtlmngghkhnnaeaaQBack
namespace Go.Proofs.Ytlmngghkhnnaeaa
open Go.RowKit
set_option maxRecDepth 100000
set_option maxHeartbeats 1000000
set_option linter.unusedVariables false
set_option linter.unusedSimpArgs false
def backF (S : SS) (x : Int) : Int × SS := if S.dd = true then (9, S) else backS S x
theorem back_nil (x : Int) (w : World) : Calls Try.prog 22 #[.pointer none, .int .i64 x] w fun e w' => e = .returned (.int .i64 8) ∧ Below w.heap.size w w' := by
  have k3 : Below w.heap.size w ((w.alloc (.cells #[.pointer none] 24)).alloc (.cells #[.int .i64 x] 3)) := ((Below.refl _ w).alloc (Nat.le_refl _) _).alloc (by simp) _
  have K3 := Lib.hid k3
  clear k3
  go_enter Try.func22, Try.ntmps22
  go_wp2_with (go_at_call 29; refine (alive_nil _ _).mono ?_; rintro e w1 ⟨rfl, rfl⟩)
  go_ret
  exact ⟨rfl, K3.out⟩
theorem SNext.early {a b c : World} {V V' : Nat → Prop} {M M' : SM} {S' : SS} (hb : Below a.heap.size a b) (h : SNext b c V V' M M' S') : SNext a c V V' M M' S' :=
  ⟨h.is, h.p, h.pd, (Keep.ofBelow hb M.foot).trans h.keep (fun i hi => .inl hi), fun i hi => (h.foot i hi).imp_right (Nat.le_trans hb.size), fun i hi => (h.bytes i hi).imp_right (Nat.le_trans hb.size)⟩
theorem back_any {V : Nat → Prop} {M : SM} {S : SS} (x : Int) (w : World) (h : SIs w V M S) (hm : S.marks.length ≤ 1000001) :
    Calls Try.prog 22 #[pS M.p, .int .i64 x] w fun e w' => e = .returned (.int .i64 (backF S x).1) ∧ ∃ M', SNext w w' V V M M' (backF S x).2 := by
  have k3 : Below w.heap.size w ((w.alloc (.cells #[pS M.p] 24)).alloc (.cells #[.int .i64 x] 3)) := ((Below.refl _ w).alloc (Nat.le_refl _) _).alloc (by simp) _
  have b1 : Boxed ((w.alloc (.cells #[pS M.p] 24)).alloc (.cells #[.int .i64 x] 3)) w.heap.size 24 (pS M.p) := (Boxed.new w _ _).alloc _
  have b2 : Boxed ((w.alloc (.cells #[pS M.p] 24)).alloc (.cells #[.int .i64 x] 3)) (w.heap.size + 1) 3 (.int .i64 x) := by
    have := Boxed.new (w.alloc (.cells #[pS M.p] 24)) 3 (.int .i64 x)
    simpa using this
  have HAL : Hid (∀ w3, Below w.heap.size w w3 → Boxed w3 w.heap.size 24 (pS M.p) → Boxed w3 (w.heap.size + 1) 3 (.int .i64 x) →
      Calls Try.prog 29 #[pS M.p, .func (Fn.func 56) #[] #[.pointer (some ⟨w.heap.size + 1, 0, none⟩), .pointer (some ⟨w.heap.size, 0, none⟩)]] w3 fun e w' => e = .returned (.int .i64 (backF S x).1) ∧ ∃ M', SNext w w' V V M M' (backF S x).2) := by
    refine Lib.hid fun w3 hb h1 h2 => ?_
    have h3S := h.below hb
    by_cases hd : S.dd = true
    · refine (alive_no _ _ h3S hd).mono ?_
      rintro e w' ⟨rfl, rfl⟩
      unfold backF
      rw [if_pos hd]
      exact ⟨rfl, M, (SNext.refl h3S (Below.refl _ _)).early hb⟩
    · have ht := backC (w.heap.size + 1) w.heap.size x w3 h3S h1 h2 hm
      refine (alive_yes _ _ (enters_of Try.func56 (by kernel_rfl) rfl) (fun y w' => y = (backS S x).1 ∧ ∃ M', SNext w w' V V M M' (backS S x).2) w3 h3S (by simpa using hd) (ht.mono ?_)).mono ?_
      · rintro e w' ⟨rfl, M', g1⟩
        exact ⟨_, rfl, rfl, M', g1.early hb⟩
      · rintro e w' ⟨y, rfl, rfl, M', g1⟩
        unfold backF
        rw [if_neg hd]
        exact ⟨rfl, M', g1⟩
  have HA := Lib.hid (HAL.out _ k3 b1 b2)
  unfold pS at HA ⊢
  clear k3 b1 b2 HAL h
  go_enter Try.func22, Try.ntmps22
  go_wp2_with (first
    | (go_at_call 29; refine HA.out.mono ?_; rintro e w4 ⟨rfl, g1⟩
       have G1 := Lib.hid g1
       clear g1))
  go_ret
  exact ⟨rfl, G1.out⟩
def abortS (S : SS) : SS := { S with st := S.was, marks := [] }
theorem wpl_load5 {ops : Array Oper} {rest : List Oper} {o : Oper} {a : Act} {w : World} {Q : Exit → Act → World → Prop} (hgd : o.guard = none) (x : Operand) (ho : o.op = .load 59 x) (g off : Nat) (hx : a.eval x = .pointer (some ⟨g, off, none⟩))
    (c : List Value) (hc : c.length = 5) (h : ∀ j v, c[j]? = some v → w.cell? ⟨g, off + j, none⟩ = some v) (hK : wpList Try.prog ops Q rest (a.put o.dst (.agg c.toArray)) w) : wpList Try.prog ops Q (o :: rest) a w :=
  wpList_plain hgd fun _ hk => wp_load5 x ho g off hx c hc h (hk _ _ hK)
theorem wpl_store5 {ops : Array Oper} {rest : List Oper} {o : Oper} {a : Act} {w : World} {Q : Exit → Act → World → Prop} (hgd : o.guard = none) (x y : Operand) (ho : o.op = .store 59 x y) (g off : Nat) (hx : a.eval x = .pointer (some ⟨g, off, none⟩))
    (c : List Value) (hy : a.eval y = .agg c.toArray) (hc : c.length = 5) (T : TypeId) (A : Array Value) (hg : w.heap[g]? = some (.cells A T (0, 0))) (hA : off + 5 ≤ A.size) (h1 : ∀ v ∈ c, v.oneCell' = true)
    (hK : wpList Try.prog ops Q rest (a.put o.dst undef) (w.setCells g off c)) : wpList Try.prog ops Q (o :: rest) a w :=
  wpList_plain hgd fun _ hk => wp_store5 x y ho g off hx c hy hc T A hg hA h1 (hk _ _ hK)
theorem abort_nil (w : World) : Calls Try.prog 16 #[.pointer none] w fun e w' => e = .returned (.tuple #[]) ∧ w = w' := by
  go_enter Try.func16, Try.ntmps16
  go_wp2
  first | go_end0 | go_ret
  exact ⟨rfl, rfl⟩
theorem abort_end {V : Nat → Prop} {w w1 : World} {M : SM} {S : SS} (h : SIs w V M S) (m' : StM) (hb : Below w.heap.size w w1) (hst : StIs w1 V m' S.was) (hnew : ∀ i, m'.blk i → w.heap.size ≤ i) :
    SNext w ((w1.setCells M.p 0 (stCells m' S.was)).setCell ⟨M.p, 11, none⟩ (.slice none 0 0)) V V M { M with now := m', mV := .slice none 0 0, mm := [] } (abortS S) := by
  have hpl : M.p < w.heap.size := blk_lt h.blk
  have hb1 : w1.heap[M.p]? = some (.cells (sArr M S) 62 (0, 0)) := (Keep.ofBelow hb (fun _ => False)).blk h.blk (fun h => h)
  have hb2 := blk_setCells (stCells m' S.was) 0 w1 _ hb1
  rw [sArr_now] at hb2
  have hb3 := blk_setCell hb2 11 (.slice none 0 0)
  have kp : Keep (fun i => i = M.p) w ((w1.setCells M.p 0 (stCells m' S.was)).setCell ⟨M.p, 11, none⟩ (.slice none 0 0)) := (Keep.setCells _ 0 w1 (Keep.ofBelow hb (fun i => i = M.p))).setEq 11 _
  have kp1 : Keep (fun i => i = M.p) w1 ((w1.setCells M.p 0 (stCells m' S.was)).setCell ⟨M.p, 11, none⟩ (.slice none 0 0)) := (Keep.setCells _ 0 w1 (Keep.refl _ w1)).setEq 11 _
  exact h.turn kp m' S.was (hst.keepB kp1 (fun i hi e => by have := hnew i hi; omega) (fun i c' z hc e => by rw [e, hb1] at hc; cases hc)) hnew h.nwas (.slice none 0 0) [] [] (World.ownsRow_nil _ _ _ _) rfl (fun i m s h1 _ => by simp at h1) (fun i hi => by cases hi)
    M.wasM S.was (h.was.keepB kp (fun i hi e => absurd (h.was.kind i hi _ _ _ (e ▸ h.blk)) (by decide)) (fun i c z hc e => h.nbytes i c z hc (.inl e))) h.nwas (.inl rfl) (by rw [hb3]; congr 2)
theorem abort_any {V : Nat → Prop} {M : SM} {S : SS} (w : World) (h : SIs w V M S) : Calls Try.prog 16 #[pS M.p] w fun e w' => e = .returned (.tuple #[]) ∧ ∃ M', SNext w w' V V M M' (abortS S) := by
  have HH := Lib.hid h
  obtain ⟨p, hp⟩ : ∃ p, p = M.p := ⟨_, rfl⟩
  have HC := Lib.hid (copied_any V M.wasM S.was w h.was)
  have HL := Lib.hid (sArr_wasC h.blk)
  have HB := Lib.hid h.blk
  rw [← hp] at HL HB
  unfold pS
  rw [← hp]
  have HP := Lib.hid hp
  clear h hp
  go_enter Try.func16, Try.ntmps16
  go_wp2_with (refine wpl_load5 rfl (.tmp 8) rfl p 6 rfl (stCells M.wasM S.was) rfl HL.out ?_)
  refine HC.out.mono ?_
  rintro e w1 ⟨m', rfl, hst, hnew, hb⟩
  have HB1 := Lib.hid hb
  have HST := Lib.hid hst
  have HNEW := Lib.hid hnew
  have HP1 := Lib.hid ((Keep.ofBelow hb (fun _ => False)).blk HB.out (fun h => h))
  have hp2 := blk_setCells (stCells m' S.was) 0 w1 _ HP1.out
  rw [sArr_now] at hp2
  have HP2 := Lib.hid hp2
  have c11 : (w1.setCells p 0 (stCells m' S.was)).cell? ⟨p, 11, none⟩ = some M.mV := blk_cell hp2 11
  have f11 := blk_frozen HP2.out 11
  obtain ⟨X, hX⟩ : ∃ X, X = w1.setCells p 0 (stCells m' S.was) := ⟨_, rfl⟩
  rw [← hX] at c11 f11 HP2
  have HX := Lib.hid hX
  clear hst hnew hb hX hp2
  go_wp2_with (refine wpl_store5 rfl (.tmp 12) (.tmp 10) rfl p 0 rfl (stCells m' S.was) rfl rfl 62 (sArr M S) HP1.out (by simp [sArr]) (stCells_one _ _) ?_; rw [← HX.out])
  go_end0
  have E := abort_end HH.out m' HB1.out HST.out HNEW.out
  rw [← HP.out, ← HX.out] at E
  exact ⟨rfl, _, E⟩
end Go.Proofs.Ytlmngghkhnnaeaa
namespace Go.Proofs.Ytlmngghkhnnaeaa
open Go.RowKit
set_option maxRecDepth 100000
set_option maxHeartbeats 1000000
set_option linter.unusedVariables false
set_option linter.unusedSimpArgs false
/-- what Read answers: the errno, and the bytes -/
def readS (S : SS) (x : Int) : Int × ByteArray :=
  if hasB S.st.taken x = false then (1, ByteArray.empty) else
    match wget x S.st.fresh with
    | some u => (0, u)
    | none => match getF (readP S.D x) x 2 with
      | some (b, _) => (0, b)
      | none => (10, ByteArray.empty)
def ReadAt (w w' : World) (qo : Nat) (r : Int × ByteArray) : Prop := ∃ v, Boxed w' qo 28 v ∧ (r.1 = 0 → Own 5 w' w.heap.size v r.2) ∧ (r.1 ≠ 0 → v = .slice none 0 0)
theorem fr_look {V : Nat → Prop} {w : World} {bf : Nat} {f : Wt} (h : FrIs w V bf f) (x : Int) : ∃ v, (Instr.lookup 51 (.map (some bf)) (.int .i64 x) true).run Try.prog w = .ok (.tuple #[v, .bool (wget x f).isSome]) w ∧ (∃ a n c, v = .slice a n c) ∧ ∀ u, wget x f = some u → Own 5 w 0 v u := by
  obtain ⟨vs, h1, h2, h3⟩ := h
  have key : ∀ (f : Wt) (vs : IM), vs.length = f.length → (∀ (i : Nat) (q : Int × ByteArray), f[i]? = some q → ∃ v, vs[i]? = some (q.1, v) ∧ Own 5 w 0 v q.2 ∧ ∀ k, v.ownBlock = some k → V k) →
      (IM.get x vs = none ∧ wget x f = none) ∨ ∃ v u, IM.get x vs = some v ∧ wget x f = some u ∧ Own 5 w 0 v u := by
    intro f
    induction f with
    | nil => intro vs hl _; cases vs with
      | nil => exact .inl ⟨rfl, rfl⟩
      | cons y vs => simp at hl
    | cons q f ih =>
      intro vs hl hx
      cases vs with
      | nil => simp at hl
      | cons y vs =>
        obtain ⟨v, e1, e2, _⟩ := hx 0 q rfl
        simp only [List.getElem?_cons_zero, Option.some.injEq] at e1
        subst e1
        by_cases hk : x = q.1
        · exact .inr ⟨v, q.2, by simp [IM.get, hk], by simp [wget, hk], e2⟩
        · rcases ih vs (by simpa using hl) (fun i q' hq' => hx (i + 1) q' hq') with ⟨g1, g2⟩ | ⟨v', u', g1, g2, g3⟩
          · exact .inl ⟨by simp [IM.get, hk, g1], by simp [wget, hk, g2]⟩
          · exact .inr ⟨v', u', by simp [IM.get, hk, g1], by simp [wget, hk, g2], g3⟩
  have hl := im_ok h1 x
  unfold imapGetV at hl
  rcases key f vs h2 h3 with ⟨g1, g2⟩ | ⟨v, u, g1, g2, g3⟩
  · rw [g1] at hl
    exact ⟨.slice none 0 0, by rw [hl, g2]; rfl, ⟨_, _, _, rfl⟩, fun u hu => by rw [g2] at hu; cases hu⟩
  · rw [g1] at hl
    exact ⟨v, by rw [hl, g2]; rfl, by obtain ⟨a, c, e⟩ := g3.size; exact ⟨_, _, _, e⟩, fun u' hu => by rw [g2] at hu; cases hu; exact g3⟩
theorem hasB_lt {l : List Bool} {x : Int} (h : hasB l x = true) : 2 ≤ x ∧ x < l.length := by
  unfold hasB at h
  simp only [Bool.and_eq_true, decide_eq_true_eq] at h
  exact ⟨h.1, h.2.1⟩
theorem sreadC {V : Nat → Prop} {M : SM} {S : SS} (qs qp qo : Nat) (x : Int) (w : World) (h : SIs w V M S) (hd : S.dd = false) (cs : Boxed w qs 24 (pS M.p)) (cp : Boxed w qp 3 (.int .i64 x)) (co : Boxed w qo 28 (.slice none 0 0)) :
    Calls Try.prog 55 #[.pointer (some ⟨qs, 0, none⟩), .pointer (some ⟨qp, 0, none⟩), .pointer (some ⟨qo, 0, none⟩)] w fun e w' => e = .returned (.int .i64 (readS S x).1) ∧ ReadAt w w' qo (readS S x) ∧ Keep (fun i => i = qo) w w' := by
  have HO := Lib.hid co
  have HAS := Lib.hid (has_any M.p M.now.ct M.now.bt S.st.taken x w.drew (blk_cell h.blk 1) (h.now.t.keep ((Keep.refl (fun _ => False) w).drew) (fun h => h)) h.now.hi)
  obtain ⟨p, hp⟩ : ∃ p, p = M.p := ⟨_, rfl⟩
  rw [← hp] at cs HAS
  have hc3 : w.cell? ⟨p, 3, none⟩ = some (.map (some M.now.bf)) := by rw [hp]; exact blk_cell h.blk 3
  have hc5 : w.cell? ⟨p, 5, none⟩ = some (.pointer (some ⟨M.pd, 0, none⟩)) := by rw [hp]; exact blk_cell h.blk 5
  have HD1 := Lib.hid (And.intro (show w.drew.cell? ⟨qs, 0, none⟩ = some (.pointer (some ⟨p, 0, none⟩)) from cs.cell) (show w.drew.cell? ⟨qp, 0, none⟩ = some (.int .i64 x) from cp.cell))
  cases hb : hasB S.st.taken x with
  | false =>
    rw [hb] at HAS
    have HR := Lib.hid (show readS S x = (1, ByteArray.empty) by unfold readS; rw [if_pos hb])
    clear h hd cs cp co hb hp hc3 hc5
    go_enter Try.func55, Try.ntmps55
    go_wp2_with fail
    refine wp_region_held_drew (S := (fun w' => w'.cell? ⟨qs, 0, none⟩ = some (.pointer (some ⟨p, 0, none⟩)) ∧ w'.cell? ⟨qp, 0, none⟩ = some (.int .i64 x))) (by kernel_rfl) ?_ (fun hHeld0 => ?_)
    · (try dsimp only)
      with_reducible exact HD1.out
    refine takeN (v := ?_) 0 rfl (by kernel_rfl) (by kernel_rfl) (by kernel_rfl) (fun _ _ _ h => h) (by rfl) ?_ hHeld0 ?_
    rotate_left
    · intro w hSw; (try dsimp only at hSw); go_simp; with_reducible rfl
    try simp only [Act.put, List.setIfInBounds_toArray, List.set_cons_zero, List.set_cons_succ]
    refine takeN (v := ?_) 1 rfl (by kernel_rfl) (by kernel_rfl) (by kernel_rfl) (fun _ _ _ h => h) (by rfl) ?_ hHeld0 ?_
    rotate_left
    · intro w hSw; (try dsimp only at hSw); go_simp; with_reducible rfl
    try simp only [Act.put, List.setIfInBounds_toArray, List.set_cons_zero, List.set_cons_succ]
    refine takeN (v := ?_) 2 rfl (by kernel_rfl) (by kernel_rfl) (by kernel_rfl) (fun _ _ _ h => h) (by rfl) ?_ hHeld0 ?_
    rotate_left
    · intro w hSw; (try dsimp only at hSw); go_simp; with_reducible rfl
    try simp only [Act.put, List.setIfInBounds_toArray, List.set_cons_zero, List.set_cons_succ]
    refine takeN (v := ?_) 3 rfl (by kernel_rfl) (by kernel_rfl) (by kernel_rfl) (fun _ _ _ h => h) (by rfl) ?_ hHeld0 ?_
    rotate_left
    · intro w hSw; (try dsimp only at hSw); go_simp; with_reducible rfl
    try simp only [Act.put, List.setIfInBounds_toArray, List.set_cons_zero, List.set_cons_succ]
    refine wpAnyH_ready (rs := [4]) (by kernel_rfl) (by simp) ?_
    refine readyN rfl (fun K hK => ?_) ?_
    · -- operation 4
      go_simp
      (go_at_call 48; refine HAS.out.mono ?_; rintro e w1 ⟨rfl, rfl⟩)
      go_wp2_with fail
      refine hK.out _ _ ?_ (fun hHeld1 => ?_)
      · (try dsimp only)
        with_reducible exact HD1.out
      clear hK K hHeld0
      try simp only [Act.put, List.setIfInBounds_toArray, List.set_cons_zero, List.set_cons_succ]
      refine takeN (v := ?_) 5 rfl (by kernel_rfl) (by kernel_rfl) (by kernel_rfl) (fun _ _ _ h => h) (by rfl) ?_ hHeld1 ?_
      rotate_left
      · intro w hSw; (try dsimp only at hSw); go_simp; with_reducible rfl
      try simp only [Act.put, List.setIfInBounds_toArray, List.set_cons_zero, List.set_cons_succ]
      refine wpAnyH_done (by kernel_rfl) ?_ _
      go_wp2
      go_ret
      rw [HR.out]
      exact ⟨rfl, ⟨_, HO.out, (fun e => absurd e (by decide)), fun _ => rfl⟩, (Keep.refl _ w).drew⟩
    exact AllReadyH.nil
  | true =>
    rw [hb] at HAS
    obtain ⟨hx2, hxn⟩ := hasB_lt hb
    have hxm : x < 4096 := by have := h.now.hi; omega
    obtain ⟨v, hlk, ⟨va, vn, vc, rfl⟩, hvo⟩ := fr_look h.now.f x
    have hlk2 : (Instr.lookup 51 (.map (some M.now.bf)) (.int .i64 x) true).run Try.prog w.drew.drew = .ok (.tuple #[.slice va vn vc, .bool (wget x S.st.fresh).isSome]) w.drew.drew := by
      obtain ⟨v', hlk', _⟩ := fr_look (h.now.f.keep (((Keep.refl (fun _ => False) w).drew).drew) (fun h => h) (fun _ _ h => h)) x
      obtain ⟨vs, g1, _⟩ := h.now.f
      have e1 := im_ok g1 x
      have e2 := im_ok (g1.keep (((Keep.refl (fun _ => False) w).drew).drew) (fun h => h)) x
      rw [hlk] at e1
      rw [e2]
      simp only [Result.ok.injEq, and_true] at e1
      rw [e1]
    have HDS := Lib.hid h.disk
    have hdd : S.D.dead = false := by unfold SS.dd at hd; simp only [Bool.or_eq_false_iff] at hd; exact hd.2
    have hsu : sureE S.D.dead S.D.L.length x 4096 = 0 := by
      unfold sureE
      rw [hdd, h.ndisk, if_neg (by decide), if_neg (by omega)]
    have hpz : (readP S.D x).size = 4096 := by
      obtain ⟨k, rfl⟩ : ∃ k : Nat, x = k := ⟨x.toNat, by omega⟩
      exact readP_size h.disk k (by rw [h.ndisk]; omega)
    have HSU := Lib.hid hsu
    have HPZ := Lib.hid hpz
    have HD2 := Lib.hid (show w.drew.drew.cell? ⟨qs, 0, none⟩ = some (.pointer (some ⟨p, 0, none⟩)) ∧ w.drew.drew.cell? ⟨qp, 0, none⟩ = some (.int .i64 x) ∧ w.drew.drew.cell? ⟨p, 3, none⟩ = some (.map (some M.now.bf)) from ⟨HD1.out.1, HD1.out.2, hc3⟩)
    cases hw : wget x S.st.fresh with
    | some u =>
      rw [hw] at hlk2
      have HR := Lib.hid (show readS S x = (0, u) by unfold readS; rw [if_neg (by rw [hb]; decide), hw])
      have HV := Lib.hid (hvo u hw)
      have hvn : vn = u.size := by obtain ⟨a, c, e⟩ := HV.out.size; cases e; rfl
      have huz : u.size ≤ 4011 := by
        have key : ∀ (f : Wt), wget x f = some u → ∃ q ∈ f, q.2 = u := by
          intro f
          induction f with
          | nil => intro h; cases h
          | cons q f ih =>
            intro h
            by_cases hk : x = q.1
            · simp only [wget, if_pos hk, Option.some.injEq] at h
              exact ⟨q, List.mem_cons_self, h⟩
            · simp only [wget, if_neg hk] at h
              obtain ⟨q', h1, h2⟩ := ih h
              exact ⟨q', List.mem_cons_of_mem _ h1, h2⟩
        obtain ⟨q, h1, h2⟩ := key _ hw
        have := (h.now.keys q h1).2.2
        rwa [h2] at this
      subst hvn
      have HVB := Lib.hid HV.out.bs
      simp only [Option.isSome_some] at hlk2
      have f0 : w.drew.drew.frozen? ⟨qo, 0, none⟩ = false := co.frozen
      clear h hd cs cp co hb hp hc3 hc5 hlk hvo hdd hsu hpz hw
      go_enter Try.func55, Try.ntmps55
      go_wp2_with fail
      refine wp_region_held_drew (S := (fun w' => w'.cell? ⟨qs, 0, none⟩ = some (.pointer (some ⟨p, 0, none⟩)) ∧ w'.cell? ⟨qp, 0, none⟩ = some (.int .i64 x))) (by kernel_rfl) ?_ (fun hHeld0 => ?_)
      · (try dsimp only)
        with_reducible exact HD1.out
      refine takeN (v := ?_) 0 rfl (by kernel_rfl) (by kernel_rfl) (by kernel_rfl) (fun _ _ _ h => h) (by rfl) ?_ hHeld0 ?_
      rotate_left
      · intro w hSw; (try dsimp only at hSw); go_simp; with_reducible rfl
      try simp only [Act.put, List.setIfInBounds_toArray, List.set_cons_zero, List.set_cons_succ]
      refine takeN (v := ?_) 1 rfl (by kernel_rfl) (by kernel_rfl) (by kernel_rfl) (fun _ _ _ h => h) (by rfl) ?_ hHeld0 ?_
      rotate_left
      · intro w hSw; (try dsimp only at hSw); go_simp; with_reducible rfl
      try simp only [Act.put, List.setIfInBounds_toArray, List.set_cons_zero, List.set_cons_succ]
      refine takeN (v := ?_) 2 rfl (by kernel_rfl) (by kernel_rfl) (by kernel_rfl) (fun _ _ _ h => h) (by rfl) ?_ hHeld0 ?_
      rotate_left
      · intro w hSw; (try dsimp only at hSw); go_simp; with_reducible rfl
      try simp only [Act.put, List.setIfInBounds_toArray, List.set_cons_zero, List.set_cons_succ]
      refine takeN (v := ?_) 3 rfl (by kernel_rfl) (by kernel_rfl) (by kernel_rfl) (fun _ _ _ h => h) (by rfl) ?_ hHeld0 ?_
      rotate_left
      · intro w hSw; (try dsimp only at hSw); go_simp; with_reducible rfl
      try simp only [Act.put, List.setIfInBounds_toArray, List.set_cons_zero, List.set_cons_succ]
      refine wpAnyH_ready (rs := [4]) (by kernel_rfl) (by simp) ?_
      refine readyN rfl (fun K hK => ?_) ?_
      · -- operation 4
        go_simp
        (go_at_call 48; refine HAS.out.mono ?_; rintro e w1 ⟨rfl, rfl⟩)
        go_wp2_with fail
        refine hK.out _ _ ?_ (fun hHeld1 => ?_)
        · (try dsimp only)
          with_reducible exact HD1.out
        clear hK K hHeld0
        try simp only [Act.put, List.setIfInBounds_toArray, List.set_cons_zero, List.set_cons_succ]
        refine takeN (v := ?_) 5 rfl (by kernel_rfl) (by kernel_rfl) (by kernel_rfl) (fun _ _ _ h => h) (by rfl) ?_ hHeld1 ?_
        rotate_left
        · intro w hSw; (try dsimp only at hSw); go_simp; with_reducible rfl
        try simp only [Act.put, List.setIfInBounds_toArray, List.set_cons_zero, List.set_cons_succ]
        refine wpAnyH_done (by kernel_rfl) ?_ _
        go_wp2_with fail
        refine wp_region_held_drew (S := (fun w' => w'.cell? ⟨qs, 0, none⟩ = some (.pointer (some ⟨p, 0, none⟩)) ∧ w'.cell? ⟨qp, 0, none⟩ = some (.int .i64 x) ∧ w'.cell? ⟨p, 3, none⟩ = some (.map (some M.now.bf)))) (by kernel_rfl) ?_ (fun hHeld0 => ?_)
        · (try dsimp only)
          with_reducible exact HD2.out
        refine takeN (v := ?_) 0 rfl (by kernel_rfl) (by kernel_rfl) (by kernel_rfl) (fun _ _ _ h => h) (by rfl) ?_ hHeld0 ?_
        rotate_left
        · intro w hSw; (try dsimp only at hSw); go_simp; with_reducible rfl
        try simp only [Act.put, List.setIfInBounds_toArray, List.set_cons_zero, List.set_cons_succ]
        refine takeN (v := ?_) 1 rfl (by kernel_rfl) (by kernel_rfl) (by kernel_rfl) (fun _ _ _ h => h) (by rfl) ?_ hHeld0 ?_
        rotate_left
        · intro w hSw; (try dsimp only at hSw); go_simp; with_reducible rfl
        try simp only [Act.put, List.setIfInBounds_toArray, List.set_cons_zero, List.set_cons_succ]
        refine takeN (v := ?_) 2 rfl (by kernel_rfl) (by kernel_rfl) (by kernel_rfl) (fun _ _ _ h => h) (by rfl) ?_ hHeld0 ?_
        rotate_left
        · intro w hSw; (try dsimp only at hSw); go_simp; with_reducible rfl
        try simp only [Act.put, List.setIfInBounds_toArray, List.set_cons_zero, List.set_cons_succ]
        refine takeN (v := ?_) 3 rfl (by kernel_rfl) (by kernel_rfl) (by kernel_rfl) (fun _ _ _ h => h) (by rfl) ?_ hHeld0 ?_
        rotate_left
        · intro w hSw; (try dsimp only at hSw); go_simp; with_reducible rfl
        try simp only [Act.put, List.setIfInBounds_toArray, List.set_cons_zero, List.set_cons_succ]
        refine takeN (v := ?_) 4 rfl (by kernel_rfl) (by kernel_rfl) (by kernel_rfl) (fun _ _ _ h => h) (by rfl) ?_ hHeld0 ?_
        rotate_left
        · intro w hSw; (try dsimp only at hSw); go_simp; with_reducible rfl
        try simp only [Act.put, List.setIfInBounds_toArray, List.set_cons_zero, List.set_cons_succ]
        refine takeN (v := ?_) 5 rfl (by kernel_rfl) (by kernel_rfl) (by kernel_rfl) (fun _ _ _ h => h) (by rfl) ?_ hHeld0 ?_
        rotate_left
        · intro w hSw; (try dsimp only at hSw); go_simp; with_reducible rfl
        try simp only [Act.put, List.setIfInBounds_toArray, List.set_cons_zero, List.set_cons_succ]
        refine wpAnyH_ready (rs := [6]) (by kernel_rfl) (by simp) ?_
        refine readyN rfl (fun K hK => ?_) ?_
        · -- operation 6
          go_simp
          refine hK.out _ _ ?_ (fun hHeld1 => ?_)
          · (try dsimp only)
            with_reducible exact HD2.out
          clear hK K hHeld0
          try simp only [Act.put, List.setIfInBounds_toArray, List.set_cons_zero, List.set_cons_succ]
          refine takeN (v := ?_) 7 rfl (by kernel_rfl) (by kernel_rfl) (by kernel_rfl) (fun _ _ _ h => h) (by rfl) ?_ hHeld1 ?_
          rotate_left
          · intro w hSw; (try dsimp only at hSw); go_simp; with_reducible rfl
          try simp only [Act.put, List.setIfInBounds_toArray, List.set_cons_zero, List.set_cons_succ]
          refine takeN (v := ?_) 8 rfl (by kernel_rfl) (by kernel_rfl) (by kernel_rfl) (fun _ _ _ h => h) (by rfl) ?_ hHeld1 ?_
          rotate_left
          · intro w hSw; (try dsimp only at hSw); go_simp; with_reducible rfl
          try simp only [Act.put, List.setIfInBounds_toArray, List.set_cons_zero, List.set_cons_succ]
          refine takeN (v := ?_) 9 rfl (by kernel_rfl) (by kernel_rfl) (by kernel_rfl) (fun _ _ _ h => h) (by rfl) ?_ hHeld1 ?_
          rotate_left
          · intro w hSw; (try dsimp only at hSw); go_simp; with_reducible rfl
          try simp only [Act.put, List.setIfInBounds_toArray, List.set_cons_zero, List.set_cons_succ]
          refine takeN (v := ?_) 10 rfl (by kernel_rfl) (by kernel_rfl) (by kernel_rfl) (fun _ _ _ h => h) (by rfl) ?_ hHeld1 ?_
          rotate_left
          · intro w hSw; (try dsimp only at hSw); go_simp; with_reducible rfl
          try simp only [Act.put, List.setIfInBounds_toArray, List.set_cons_zero, List.set_cons_succ]
          refine takeN (v := ?_) 11 rfl (by kernel_rfl) (by kernel_rfl) (by kernel_rfl) (fun _ _ _ h => h) (by rfl) ?_ hHeld1 ?_
          rotate_left
          · intro w hSw; (try dsimp only at hSw); go_simp; with_reducible rfl
          try simp only [Act.put, List.setIfInBounds_toArray, List.set_cons_zero, List.set_cons_succ]
          refine wpAnyH_done (by kernel_rfl) ?_ _
          go_wp2_with (go_at_call 35; refine (cloneb_any _ u w.drew.drew HVB.out (by omega)).mono ?_; rintro e w4 ⟨v4, rfl, ho, hb⟩; obtain ⟨a4, c4, rfl⟩ := ho.size
                       have HO4 := Lib.hid ho
                       have HB4 := Lib.hid hb
                       have hco : Boxed w4 qo 28 (.slice none 0 0) := (Keep.ofBelow hb (fun _ => False)).blk (show w.drew.drew.heap[qo]? = _ from HO.out) (fun h => h)
                       have HCO := Lib.hid hco
                       have f4 := hco.frozen
                       have c4' := hco.cell
                       clear ho hb hco)
          go_ret
          rw [HR.out]
          have hk4 : Keep (fun i => i = qo) w4 (w4.setCell ⟨qo, 0, none⟩ (.slice a4 u.size c4)) := (Keep.refl _ _).setEq _ _
          have hqo : qo < w.heap.size := blk_lt (show w.heap[qo]? = _ from HO.out)
          refine ⟨rfl, ⟨_, HCO.out.set _, fun _ => ?_, fun e => absurd rfl e⟩, ?_⟩
          · exact HO4.out.keep hk4 (fun k hk e => by have := (HO4.out.base_le k hk).1; have h' : w.heap.size ≤ k := this; omega)
          · exact (Keep.ofBelow (((Below.refl w.heap.size w).drew.drew).trans HB4.out) (fun i => i = qo)).trans hk4 (fun i hi => .inl hi)
        exact AllReadyH.nil
      exact AllReadyH.nil
    | none =>
      rw [hw] at hlk2
      simp only [Option.isSome_none] at hlk2
      have HDS2 := Lib.hid (HDS.out.below (((Below.refl _ w).drew.drew.drew)))
      have HD3 := Lib.hid (show w.drew.drew.drew.cell? ⟨qs, 0, none⟩ = some (.pointer (some ⟨p, 0, none⟩)) ∧ w.drew.drew.drew.cell? ⟨qp, 0, none⟩ = some (.int .i64 x) ∧ w.drew.drew.drew.cell? ⟨p, 5, none⟩ = some (.pointer (some ⟨M.pd, 0, none⟩)) from ⟨HD1.out.1, HD1.out.2, hc5⟩)
      have HRD := Lib.hid (read_any x w.drew.drew.drew HDS2.out)
      unfold dV at HRD
      rw [hsu] at HRD
      have HQ := Lib.hid fun (w4 : World) (hb : Below w.heap.size w w4) => show w4.cell? ⟨qs, 0, none⟩ = some (.pointer (some ⟨p, 0, none⟩)) ∧ w4.cell? ⟨qp, 0, none⟩ = some (.int .i64 x) ∧ w4.cell? ⟨p, 5, none⟩ = some (.pointer (some ⟨M.pd, 0, none⟩)) from ⟨(Keep.ofBelow hb (fun _ => False)).cell HD1.out.1 (fun h => h), (Keep.ofBelow hb (fun _ => False)).cell HD1.out.2 (fun h => h), (Keep.ofBelow hb (fun _ => False)).cell hc5 (fun h => h)⟩
      have HRS := Lib.hid (show readS S x = (match getF (readP S.D x) x 2 with | some (b, _) => (0, b) | none => (10, ByteArray.empty)) by unfold readS; rw [if_neg (by rw [hb]; decide), hw])
      have f0 : w.drew.drew.drew.frozen? ⟨qo, 0, none⟩ = false := co.frozen
      have x0 : 0 ≤ x := by omega
      obtain ⟨G, hG⟩ : ∃ G, G = getF (readP S.D x) x 2 := ⟨_, rfl⟩
      have HG := Lib.hid hG
      rw [← hG] at HRS
      clear h hd cs cp co hb hp hc3 hc5 hlk hvo hdd hsu hpz hw hG
      go_enter Try.func55, Try.ntmps55
      go_wp2_with fail
      refine wp_region_held_drew (S := (fun w' => w'.cell? ⟨qs, 0, none⟩ = some (.pointer (some ⟨p, 0, none⟩)) ∧ w'.cell? ⟨qp, 0, none⟩ = some (.int .i64 x))) (by kernel_rfl) ?_ (fun hHeld0 => ?_)
      · (try dsimp only)
        with_reducible exact HD1.out
      refine takeN (v := ?_) 0 rfl (by kernel_rfl) (by kernel_rfl) (by kernel_rfl) (fun _ _ _ h => h) (by rfl) ?_ hHeld0 ?_
      rotate_left
      · intro w hSw; (try dsimp only at hSw); go_simp; with_reducible rfl
      try simp only [Act.put, List.setIfInBounds_toArray, List.set_cons_zero, List.set_cons_succ]
      refine takeN (v := ?_) 1 rfl (by kernel_rfl) (by kernel_rfl) (by kernel_rfl) (fun _ _ _ h => h) (by rfl) ?_ hHeld0 ?_
      rotate_left
      · intro w hSw; (try dsimp only at hSw); go_simp; with_reducible rfl
      try simp only [Act.put, List.setIfInBounds_toArray, List.set_cons_zero, List.set_cons_succ]
      refine takeN (v := ?_) 2 rfl (by kernel_rfl) (by kernel_rfl) (by kernel_rfl) (fun _ _ _ h => h) (by rfl) ?_ hHeld0 ?_
      rotate_left
      · intro w hSw; (try dsimp only at hSw); go_simp; with_reducible rfl
      try simp only [Act.put, List.setIfInBounds_toArray, List.set_cons_zero, List.set_cons_succ]
      refine takeN (v := ?_) 3 rfl (by kernel_rfl) (by kernel_rfl) (by kernel_rfl) (fun _ _ _ h => h) (by rfl) ?_ hHeld0 ?_
      rotate_left
      · intro w hSw; (try dsimp only at hSw); go_simp; with_reducible rfl
      try simp only [Act.put, List.setIfInBounds_toArray, List.set_cons_zero, List.set_cons_succ]
      refine wpAnyH_ready (rs := [4]) (by kernel_rfl) (by simp) ?_
      refine readyN rfl (fun K hK => ?_) ?_
      · -- operation 4
        go_simp
        (go_at_call 48; refine HAS.out.mono ?_; rintro e w1 ⟨rfl, rfl⟩)
        go_wp2_with fail
        refine hK.out _ _ ?_ (fun hHeld1 => ?_)
        · (try dsimp only)
          with_reducible exact HD1.out
        clear hK K hHeld0
        try simp only [Act.put, List.setIfInBounds_toArray, List.set_cons_zero, List.set_cons_succ]
        refine takeN (v := ?_) 5 rfl (by kernel_rfl) (by kernel_rfl) (by kernel_rfl) (fun _ _ _ h => h) (by rfl) ?_ hHeld1 ?_
        rotate_left
        · intro w hSw; (try dsimp only at hSw); go_simp; with_reducible rfl
        try simp only [Act.put, List.setIfInBounds_toArray, List.set_cons_zero, List.set_cons_succ]
        refine wpAnyH_done (by kernel_rfl) ?_ _
        go_wp2_with fail
        refine wp_region_held_drew (S := (fun w' => w'.cell? ⟨qs, 0, none⟩ = some (.pointer (some ⟨p, 0, none⟩)) ∧ w'.cell? ⟨qp, 0, none⟩ = some (.int .i64 x) ∧ w'.cell? ⟨p, 3, none⟩ = some (.map (some M.now.bf)))) (by kernel_rfl) ?_ (fun hHeld0 => ?_)
        · (try dsimp only)
          with_reducible exact HD2.out
        refine takeN (v := ?_) 0 rfl (by kernel_rfl) (by kernel_rfl) (by kernel_rfl) (fun _ _ _ h => h) (by rfl) ?_ hHeld0 ?_
        rotate_left
        · intro w hSw; (try dsimp only at hSw); go_simp; with_reducible rfl
        try simp only [Act.put, List.setIfInBounds_toArray, List.set_cons_zero, List.set_cons_succ]
        refine takeN (v := ?_) 1 rfl (by kernel_rfl) (by kernel_rfl) (by kernel_rfl) (fun _ _ _ h => h) (by rfl) ?_ hHeld0 ?_
        rotate_left
        · intro w hSw; (try dsimp only at hSw); go_simp; with_reducible rfl
        try simp only [Act.put, List.setIfInBounds_toArray, List.set_cons_zero, List.set_cons_succ]
        refine takeN (v := ?_) 2 rfl (by kernel_rfl) (by kernel_rfl) (by kernel_rfl) (fun _ _ _ h => h) (by rfl) ?_ hHeld0 ?_
        rotate_left
        · intro w hSw; (try dsimp only at hSw); go_simp; with_reducible rfl
        try simp only [Act.put, List.setIfInBounds_toArray, List.set_cons_zero, List.set_cons_succ]
        refine takeN (v := ?_) 3 rfl (by kernel_rfl) (by kernel_rfl) (by kernel_rfl) (fun _ _ _ h => h) (by rfl) ?_ hHeld0 ?_
        rotate_left
        · intro w hSw; (try dsimp only at hSw); go_simp; with_reducible rfl
        try simp only [Act.put, List.setIfInBounds_toArray, List.set_cons_zero, List.set_cons_succ]
        refine takeN (v := ?_) 4 rfl (by kernel_rfl) (by kernel_rfl) (by kernel_rfl) (fun _ _ _ h => h) (by rfl) ?_ hHeld0 ?_
        rotate_left
        · intro w hSw; (try dsimp only at hSw); go_simp; with_reducible rfl
        try simp only [Act.put, List.setIfInBounds_toArray, List.set_cons_zero, List.set_cons_succ]
        refine takeN (v := ?_) 5 rfl (by kernel_rfl) (by kernel_rfl) (by kernel_rfl) (fun _ _ _ h => h) (by rfl) ?_ hHeld0 ?_
        rotate_left
        · intro w hSw; (try dsimp only at hSw); go_simp; with_reducible rfl
        try simp only [Act.put, List.setIfInBounds_toArray, List.set_cons_zero, List.set_cons_succ]
        refine wpAnyH_ready (rs := [6]) (by kernel_rfl) (by simp) ?_
        refine readyN rfl (fun K hK => ?_) ?_
        · -- operation 6
          go_simp
          refine hK.out _ _ ?_ (fun hHeld1 => ?_)
          · (try dsimp only)
            with_reducible exact HD2.out
          clear hK K hHeld0
          try simp only [Act.put, List.setIfInBounds_toArray, List.set_cons_zero, List.set_cons_succ]
          refine takeN (v := ?_) 7 rfl (by kernel_rfl) (by kernel_rfl) (by kernel_rfl) (fun _ _ _ h => h) (by rfl) ?_ hHeld1 ?_
          rotate_left
          · intro w hSw; (try dsimp only at hSw); go_simp; with_reducible rfl
          try simp only [Act.put, List.setIfInBounds_toArray, List.set_cons_zero, List.set_cons_succ]
          refine takeN (v := ?_) 8 rfl (by kernel_rfl) (by kernel_rfl) (by kernel_rfl) (fun _ _ _ h => h) (by rfl) ?_ hHeld1 ?_
          rotate_left
          · intro w hSw; (try dsimp only at hSw); go_simp; with_reducible rfl
          try simp only [Act.put, List.setIfInBounds_toArray, List.set_cons_zero, List.set_cons_succ]
          refine takeN (v := ?_) 9 rfl (by kernel_rfl) (by kernel_rfl) (by kernel_rfl) (fun _ _ _ h => h) (by rfl) ?_ hHeld1 ?_
          rotate_left
          · intro w hSw; (try dsimp only at hSw); go_simp; with_reducible rfl
          try simp only [Act.put, List.setIfInBounds_toArray, List.set_cons_zero, List.set_cons_succ]
          refine takeN (v := ?_) 10 rfl (by kernel_rfl) (by kernel_rfl) (by kernel_rfl) (fun _ _ _ h => h) (by rfl) ?_ hHeld1 ?_
          rotate_left
          · intro w hSw; (try dsimp only at hSw); go_simp; with_reducible rfl
          try simp only [Act.put, List.setIfInBounds_toArray, List.set_cons_zero, List.set_cons_succ]
          refine takeN (v := ?_) 11 rfl (by kernel_rfl) (by kernel_rfl) (by kernel_rfl) (fun _ _ _ h => h) (by rfl) ?_ hHeld1 ?_
          rotate_left
          · intro w hSw; (try dsimp only at hSw); go_simp; with_reducible rfl
          try simp only [Act.put, List.setIfInBounds_toArray, List.set_cons_zero, List.set_cons_succ]
          refine wpAnyH_done (by kernel_rfl) ?_ _
          go_wp2_with fail
          refine wp_region_held_drew (S := (fun w' => w'.cell? ⟨qs, 0, none⟩ = some (.pointer (some ⟨p, 0, none⟩)) ∧ w'.cell? ⟨qp, 0, none⟩ = some (.int .i64 x) ∧ w'.cell? ⟨p, 5, none⟩ = some (.pointer (some ⟨M.pd, 0, none⟩)))) (by kernel_rfl) ?_ (fun hHeld0 => ?_)
          · (try dsimp only)
            first | with_reducible exact HD3.out | with_reducible exact HQ.out _ HB4.out
          refine takeN (v := ?_) 0 rfl (by kernel_rfl) (by kernel_rfl) (by kernel_rfl) (fun _ _ _ h => h) (by rfl) ?_ hHeld0 ?_
          rotate_left
          · intro w hSw; (try dsimp only at hSw); go_simp; with_reducible rfl
          try simp only [Act.put, List.setIfInBounds_toArray, List.set_cons_zero, List.set_cons_succ]
          refine takeN (v := ?_) 1 rfl (by kernel_rfl) (by kernel_rfl) (by kernel_rfl) (fun _ _ _ h => h) (by rfl) ?_ hHeld0 ?_
          rotate_left
          · intro w hSw; (try dsimp only at hSw); go_simp; with_reducible rfl
          try simp only [Act.put, List.setIfInBounds_toArray, List.set_cons_zero, List.set_cons_succ]
          refine takeN (v := ?_) 2 rfl (by kernel_rfl) (by kernel_rfl) (by kernel_rfl) (fun _ _ _ h => h) (by rfl) ?_ hHeld0 ?_
          rotate_left
          · intro w hSw; (try dsimp only at hSw); go_simp; with_reducible rfl
          try simp only [Act.put, List.setIfInBounds_toArray, List.set_cons_zero, List.set_cons_succ]
          refine takeN (v := ?_) 3 rfl (by kernel_rfl) (by kernel_rfl) (by kernel_rfl) (fun _ _ _ h => h) (by rfl) ?_ hHeld0 ?_
          rotate_left
          · intro w hSw; (try dsimp only at hSw); go_simp; with_reducible rfl
          try simp only [Act.put, List.setIfInBounds_toArray, List.set_cons_zero, List.set_cons_succ]
          refine takeN (v := ?_) 4 rfl (by kernel_rfl) (by kernel_rfl) (by kernel_rfl) (fun _ _ _ h => h) (by rfl) ?_ hHeld0 ?_
          rotate_left
          · intro w hSw; (try dsimp only at hSw); go_simp; with_reducible rfl
          try simp only [Act.put, List.setIfInBounds_toArray, List.set_cons_zero, List.set_cons_succ]
          refine wpAnyH_ready (rs := [5]) (by kernel_rfl) (by simp) ?_
          refine readyN rfl (fun K hK => ?_) ?_
          · -- operation 5
            go_simp
            (go_at_call 7; refine HRD.out.mono ?_; rintro e w4 ⟨v4, c4, rfl, rfl, ho, _, hb⟩; have ho' := ho rfl; clear ho; obtain ⟨a4, k4, rfl⟩ := ho'.size
             have HO4 := Lib.hid ho'
             have HB4 := Lib.hid (show Below w.heap.size w w4 from ((Below.refl w.heap.size w).drew.drew.drew).trans hb)
             have HFG := Lib.hid (fget_any x 2 _ (readP S.D x) x0 hxm (by decide) (by decide) w4 ho'.bs HPZ.out)
             rw [← HG.out] at HFG
             clear ho' hb)
            go_wp2_with fail
            refine hK.out _ _ ?_ (fun hHeld1 => ?_)
            · (try dsimp only)
              first | with_reducible exact HD3.out | with_reducible exact HQ.out _ HB4.out
            clear hK K hHeld0
            try simp only [Act.put, List.setIfInBounds_toArray, List.set_cons_zero, List.set_cons_succ]
            refine takeN (v := ?_) 6 rfl (by kernel_rfl) (by kernel_rfl) (by kernel_rfl) (fun _ _ _ h => h) (by rfl) ?_ hHeld1 ?_
            rotate_left
            · intro w hSw; (try dsimp only at hSw); go_simp; with_reducible rfl
            try simp only [Act.put, List.setIfInBounds_toArray, List.set_cons_zero, List.set_cons_succ]
            refine takeN (v := ?_) 7 rfl (by kernel_rfl) (by kernel_rfl) (by kernel_rfl) (fun _ _ _ h => h) (by rfl) ?_ hHeld1 ?_
            rotate_left
            · intro w hSw; (try dsimp only at hSw); go_simp; with_reducible rfl
            try simp only [Act.put, List.setIfInBounds_toArray, List.set_cons_zero, List.set_cons_succ]
            refine takeN (v := ?_) 8 rfl (by kernel_rfl) (by kernel_rfl) (by kernel_rfl) (fun _ _ _ h => h) (by rfl) ?_ hHeld1 ?_
            rotate_left
            · intro w hSw; (try dsimp only at hSw); go_simp; with_reducible rfl
            try simp only [Act.put, List.setIfInBounds_toArray, List.set_cons_zero, List.set_cons_succ]
            refine takeN (v := ?_) 9 rfl (by kernel_rfl) (by kernel_rfl) (by kernel_rfl) (fun _ _ _ h => h) (by rfl) ?_ hHeld1 ?_
            rotate_left
            · intro w hSw; (try dsimp only at hSw); go_simp; with_reducible rfl
            try simp only [Act.put, List.setIfInBounds_toArray, List.set_cons_zero, List.set_cons_succ]
            refine takeN (v := ?_) 10 rfl (by kernel_rfl) (by kernel_rfl) (by kernel_rfl) (fun _ _ _ h => h) (by rfl) ?_ hHeld1 ?_
            rotate_left
            · intro w hSw; (try dsimp only at hSw); go_simp; with_reducible rfl
            try simp only [Act.put, List.setIfInBounds_toArray, List.set_cons_zero, List.set_cons_succ]
            refine wpAnyH_done (by kernel_rfl) ?_ _
            have hc4 := (HQ.out _ HB4.out).2.1
            have hqo : qo < w.heap.size := blk_lt (show w.heap[qo]? = _ from HO.out)
            have HQO := Lib.hid hqo
            clear hqo
            cases G with
            | none =>
              go_wp2_with (go_at_call 10; refine HFG.out.mono ?_; rintro e w5 ⟨he, hb⟩; unfold GetR at he; simp only at he; subst he
                           have HB5 := Lib.hid hb
                           clear hb)
              go_ret
              rw [HRS.out]
              have hbb := below_and HB4.out HB5.out
              exact ⟨rfl, ⟨_, (Keep.ofBelow hbb (fun _ => False)).blk HO.out (fun h => h), (fun e => absurd e (by decide)), fun _ => rfl⟩, Keep.ofBelow hbb _⟩
            | some g =>
              obtain ⟨b, st⟩ := g
              go_wp2_with (go_at_call 10; refine HFG.out.mono ?_; rintro e w5 ⟨he, hb⟩; unfold GetR at he; simp only at he; obtain ⟨v5, rfl, ho⟩ := he; obtain ⟨a5, k5, rfl⟩ := ho.size
                           have HO5 := Lib.hid ho
                           have HB5 := Lib.hid hb
                           have HBB := Lib.hid (below_and HB4.out hb)
                           have hco : Boxed w5 qo 28 (.slice none 0 0) := (Keep.ofBelow HBB.out (fun _ => False)).blk HO.out (fun h => h)
                           have HCO := Lib.hid hco
                           have f5 := hco.frozen
                           have c5' := hco.cell
                           clear ho hb hco)
              go_ret
              rw [HRS.out]
              have hk4 : Keep (fun i => i = qo) w5 (w5.setCell ⟨qo, 0, none⟩ (.slice a5 b.size k5)) := (Keep.refl _ _).setEq _ _
              have hqo := HQO.out
              have hsz := HB4.out.size
              refine ⟨rfl, ⟨_, HCO.out.set _, fun _ => ?_, fun e => absurd rfl e⟩, (Keep.ofBelow HBB.out (fun i => i = qo)).trans hk4 (fun i hi => .inl hi)⟩
              exact (HO5.out.keep hk4 (fun k hk e => by have := (HO5.out.base_le k hk).1; omega)).lower hsz
          exact AllReadyH.nil
        exact AllReadyH.nil
      exact AllReadyH.nil
end Go.Proofs.Ytlmngghkhnnaeaa
