/- The walks of disk's Write, Flush, Restart. -/
import Derived.Test.YtlmngghkhnnaeaaQDisk7
namespace Go.Proofs.Ytlmngghkhnnaeaa
open Go.RowKit
set_option maxRecDepth 100000
set_option linter.unusedVariables false
set_option linter.unusedSimpArgs false
section
variable {p bl bw : Nat} {ov : Value} {S : DS}
def writeE (S : DS) (at_ : Int) (u : ByteArray) : Int := if sureE S.dead S.L.length at_ u.size = 0 then (if (writeS S at_ u).dead = true then 9 else 0) else sureE S.dead S.L.length at_ u.size
def writeR (S : DS) (at_ : Int) (u : ByteArray) : DS := if sureE S.dead S.L.length at_ u.size = 0 then writeS S at_ u else S
/-- the disk after a call: its order may lie elsewhere -/
def Next (w w' : World) (p bl bw : Nat) (ov : Value) (S' : DS) : Prop :=
  ∃ ov', DiskIs w' p bl bw ov' S' ∧ Keep (DF p bl bw ov) w w' ∧ ∀ i, ov'.ownBlock = some i → ov.ownBlock = some i ∨ w.heap.size ≤ i
theorem Next.later {w W w' : World} {S' : DS} (hb : Below w.heap.size w W) (h : Next W w' p bl bw ov S') : Next w w' p bl bw ov S' := by
  obtain ⟨ov', h1, h2, h3⟩ := h
  refine ⟨ov', h1, (Keep.ofBelow hb _).trans h2 (fun i hi => .inl hi), fun i hi => ?_⟩
  rcases h3 i hi with e | e
  · exact .inl e
  · exact .inr (Nat.le_trans hb.size e)
theorem write_any (at_ : Int) (bv : Value) (u : ByteArray) (w : World) (hD : DiskIs w p bl bw ov S) (hB : BS w bv u) (nb : ∀ k, bv.ownBlock = some k → ¬ DF p bl bw ov k) :
    Calls Try.prog 19 #[dV p, .int .i64 at_, bv] w fun e w' => ∃ c, e = .returned (.int .i64 c) ∧ c = writeE S at_ u ∧ Next w w' p bl bw ov (writeR S at_ u) := by
  obtain ⟨ab, cb, rfl⟩ := hB.len
  have hcon : ∀ W, W = ((w.alloc (.cells #[dV p] 23)).alloc (.cells #[.int .i64 at_] 3)).alloc (.cells #[.slice ab u.size cb] 28) →
      Calls Try.prog 26 #[dV p, .int .i64 at_, .int .i64 u.size, .func (Fn.func 53) #[] #[.pointer (some ⟨w.heap.size, 0, none⟩), .pointer (some ⟨w.heap.size + 1, 0, none⟩), .pointer (some ⟨w.heap.size + 1 + 1, 0, none⟩)]] W
        fun e w' => ∃ c, e = .returned (.int .i64 c) ∧ c = writeE S at_ u ∧ Next w w' p bl bw ov (writeR S at_ u) := by
    rintro W rfl
    have hW : Below w.heap.size w (((w.alloc (.cells #[dV p] 23)).alloc (.cells #[.int .i64 at_] 3)).alloc (.cells #[.slice ab u.size cb] 28)) := by go_grown
    have hqb : (((w.alloc (.cells #[dV p] 23)).alloc (.cells #[.int .i64 at_] 3)).alloc (.cells #[.slice ab u.size cb] 28)).cell? ⟨w.heap.size + 1 + 1, 0, none⟩ = some (.slice ab u.size cb) := by rw [blk_cell (blk_newAt (by simp) _)]; rfl
    have hqd : (((w.alloc (.cells #[dV p] 23)).alloc (.cells #[.int .i64 at_] 3)).alloc (.cells #[.slice ab u.size cb] 28)).cell? ⟨w.heap.size, 0, none⟩ = some (dV p) := by rw [blk_cell (blk_alloc (blk_alloc (blk_new w _) _) _)]; rfl
    have hqa : (((w.alloc (.cells #[dV p] 23)).alloc (.cells #[.int .i64 at_] 3)).alloc (.cells #[.slice ab u.size cb] 28)).cell? ⟨w.heap.size + 1, 0, none⟩ = some (.int .i64 at_) := by rw [blk_cell (blk_alloc (blk_newAt (by simp) _) _)]; rfl
    generalize ((w.alloc (.cells #[dV p] 23)).alloc (.cells #[.int .i64 at_] 3)).alloc (.cells #[.slice ab u.size cb] 28) = W at *
    by_cases hz : sureE S.dead S.L.length at_ u.size = 0
    · obtain ⟨h1, h2, h3, h4⟩ := sureE_zero hz
      obtain ⟨k, rfl⟩ : ∃ k : Nat, at_ = k := ⟨at_.toNat, by omega⟩
      have hlt := hD.lt
      have hrc := writeC k (by omega) w.heap.size (w.heap.size + 1) (w.heap.size + 1 + 1) _ u W (hD.below hW) hqd hqa hqb (hB.below hW) (by omega) (fun e => by have := hlt _ e; omega) (fun e => by have := hlt _ e; omega) (fun e => by have := hlt _ e; omega) nb
      rw [h4]
      refine (sure_write (R := fun c w' => c = (if (writeS S k u).dead = true then 9 else 0) ∧ Next W w' p bl bw ov (writeS S k u)) W (hD.below hW) k _ h1 h2 h3 hrc).mono ?_
      rintro e w' ⟨c, rfl, rfl, hn⟩
      refine ⟨_, rfl, by unfold writeE; rw [if_pos hz], ?_⟩
      rw [writeR, if_pos hz]
      exact hn.later hW
    · refine (sure_no W (hD.below hW) at_ u.size _ hz).mono ?_
      rintro e w' ⟨rfl, rfl⟩
      refine ⟨_, rfl, by unfold writeE; rw [if_neg hz], ?_⟩
      rw [writeR, if_neg hz]
      exact ⟨ov, hD.below hW, Keep.ofBelow hW _, fun i hi => .inl hi⟩
  have HC := Lib.hid hcon
  unfold dV at *
  clear hD hcon hB nb
  go_enter Try.func19, Try.ntmps19
  go_wp2_with fail
  refine (HC.out _ rfl).mono ?_
  rintro e w1 ⟨c, rfl, hc, hn⟩
  have HN := Lib.hid hn
  clear hn HC
  go_wp2_with fail
  go_ret
  exact ⟨_, rfl, rfl, HN.out⟩
theorem burnS_L : (burnS S).L = S.L := rfl
def flushE (S : DS) : Int := if S.dead = true then 9 else if (burnS S).dead = true then 9 else 0
def flushR (S : DS) : DS := if S.dead = true then S else if (burnS S).dead = true then burnS S else { burnS S with L := setl (fun _ => 255) S.W S.L S.W.length, W := [] }
theorem flush_fate (k : Nat) (W : World) : Calls Try.prog 79 #[.int .i64 k] W fun e w' => e = .returned (.int .i64 255) ∧ w' = W := by
  go_enter Try.func79, Try.ntmps79
  go_wp2
  go_ret
  exact ⟨rfl, rfl⟩
theorem Next.ofKeep {w w' : World} {S' : DS} (h : DiskIs w' p bl bw ov S') (hk : Keep (DF p bl bw ov) w w') : Next w w' p bl bw ov S' := ⟨ov, h, hk, fun i hi => .inl hi⟩
theorem flushC (qd : Nat) (w : World) (hD : DiskIs w p bl bw ov S) (hd : S.dead = false) (hqd : w.cell? ⟨qd, 0, none⟩ = some (dV p)) (ne1 : ¬ DF p bl bw ov qd) :
    Calls Try.prog 77 #[.pointer (some ⟨qd, 0, none⟩)] w fun e w' => ∃ c, e = .returned (.int .i64 c) ∧ c = flushE S ∧ Next w w' p bl bw ov (flushR S) := by
  obtain ⟨d, hdd⟩ : ∃ d, d = (burnS S).dead := ⟨_, rfl⟩
  have HE : Hid (flushE S = if d = true then 9 else 0) := Lib.hid (by unfold flushE; rw [hd, ← hdd]; rfl)
  have HR : Hid (flushR S = if d = true then burnS S else { burnS S with L := setl (fun _ => 255) S.W S.L S.W.length, W := [] }) := Lib.hid (by unfold flushR; rw [hd, ← hdd]; rfl)
  have HD := Lib.hid hD
  have HQ := Lib.hid hqd
  have HDD := Lib.hid hdd
  unfold dV at hqd
  clear hD hd hdd
  go_enter Try.func77, Try.ntmps77
  go_wp2_with fail
  refine (burns_any w HD.out).mono ?_
  rintro e w1 ⟨rfl, hD1, hk1⟩
  have HD1 := Lib.hid hD1
  have HK1 := Lib.hid (hk1.mono (G := DF p bl bw ov) (fun i hi => .inl hi))
  have hq1 := HK1.out.cell HQ.out ne1
  unfold dV at hq1
  rw [← HDD.out]
  clear hD1 hk1
  cases d with
  | true =>
    go_wp2_with fail
    go_ret
    refine ⟨_, rfl, HE.out.symm, ?_⟩
    rw [HR.out]
    simp only [if_true]
    exact Next.ofKeep HD1.out HK1.out
  | false =>
    go_wp2_with fail
    refine (settle_all (S := burnS S) w1 (fun _ => 255) HD1.out (fun _ => by decide) (fun k W _ _ => flush_fate k W)).mono ?_
    rintro e w2 ⟨rfl, hD2, hk2⟩
    have HD2 := Lib.hid hD2
    have HK2 := Lib.hid (HK1.out.trans hk2 (fun i hi => .inl hi))
    clear hD2 hk2
    go_wp2_with fail
    go_ret
    refine ⟨_, rfl, HE.out.symm, ?_⟩
    rw [HR.out]
    simp only [Bool.false_eq_true, if_false]
    exact ⟨_, HD2.out, HK2.out, fun i hi => by cases hi⟩
theorem flush_any (w : World) (hD : DiskIs w p bl bw ov S) (hpos : 0 < S.L.length) :
    Calls Try.prog 60 #[dV p] w fun e w' => ∃ c, e = .returned (.int .i64 c) ∧ c = flushE S ∧ Next w w' p bl bw ov (flushR S) := by
  have hcon : ∀ W, W = (w.alloc (.cells #[dV p] 23)) →
      Calls Try.prog 26 #[dV p, .int .i64 0, .int .i64 4096, .func (Fn.func 77) #[] #[.pointer (some ⟨w.heap.size, 0, none⟩)]] W
        fun e w' => ∃ c, e = .returned (.int .i64 c) ∧ c = flushE S ∧ Next w w' p bl bw ov (flushR S) := by
    rintro W rfl
    have hW : Below w.heap.size w (w.alloc (.cells #[dV p] 23)) := by go_grown
    have hqd : (w.alloc (.cells #[dV p] 23)).cell? ⟨w.heap.size, 0, none⟩ = some (dV p) := by rw [blk_cell (blk_new w _)]; rfl
    generalize w.alloc (.cells #[dV p] 23) = W at *
    cases hz : S.dead with
    | false =>
      have hlt := hD.lt
      refine (sure_flush (R := fun c w' => c = flushE S ∧ Next W w' p bl bw ov (flushR S)) W (hD.below hW) 0 _ hz (by decide) (by omega) (flushC w.heap.size W (hD.below hW) hz hqd (fun e => by have := hlt _ e; omega))).mono ?_
      rintro e w' ⟨c, rfl, rfl, hn⟩
      exact ⟨_, rfl, rfl, hn.later hW⟩
    | true =>
      refine (sure_no W (hD.below hW) 0 4096 _ (by rw [hz]; simp [sureE])).mono ?_
      rintro e w' ⟨rfl, rfl⟩
      refine ⟨_, rfl, by unfold flushE; rw [hz]; rfl, ?_⟩
      rw [flushR, if_pos hz]
      exact Next.ofKeep (hD.below hW) (Keep.ofBelow hW _)
  have HC := Lib.hid hcon
  unfold dV at *
  clear hD hcon
  go_enter Try.func60, Try.ntmps60
  go_wp2_with fail
  refine (HC.out _ rfl).mono ?_
  rintro e w1 ⟨c, rfl, hc, hn⟩
  have HN := Lib.hid hn
  clear hn HC
  go_wp2_with fail
  go_ret
  exact ⟨_, rfl, rfl, HN.out⟩
/-- v is a slice of ints that reads as l -/
def IS (w : World) (v : Value) (l : List Int) : Prop :=
  ∃ a cap, v = .slice a l.length cap ∧ l.length ≤ cap ∧ cap ≤ maxLen ∧ (l = [] ∨ ∃ b off, a = some ⟨b, off, none⟩ ∧ ∀ (i : Nat) x, l[i]? = some x → w.cell? ⟨b, off + i, none⟩ = some (.int .i64 x))
theorem IS.keep {F : Nat → Prop} {w w' : World} {v : Value} {l : List Int} (h : IS w v l) (hk : Keep F w w') (hF : l ≠ [] → ∀ k, v.ownBlock = some k → ¬ F k) : IS w' v l := by
  obtain ⟨a, cap, rfl, h1, h2, hx⟩ := h
  refine ⟨a, cap, rfl, h1, h2, ?_⟩
  rcases hx with h0 | ⟨b, off, rfl, hcell⟩
  · exact .inl h0
  · exact .inr ⟨b, off, rfl, fun i x hi => hk.cell (hcell i x hi) (hF (fun e => by rw [e] at hi; simp at hi) b rfl)⟩
theorem IS.below {w w' : World} {v : Value} {l : List Int} (h : IS w v l) (hb : Below w.heap.size w w') : IS w' v l := h.keep (Keep.ofBelow hb (fun _ => False)) (fun _ _ _ h => h)
theorem IS.ofRow {w : World} {B : Nat} {v : Value} {l : List Int} (h : w.ownsRow B 3 1 v l.length (l.map (Value.int .i64))) : IS w v l := by
  rcases h.2 with ⟨rfl, h0⟩ | ⟨g, cap, cur, rfl, hb, hg, hn, hm, hs, ht⟩
  · obtain rfl : l = [] := List.eq_nil_of_length_eq_zero h0
    exact ⟨none, 0, rfl, Nat.le_refl _, by decide, .inl rfl⟩
  · refine ⟨_, cap, rfl, hn, hm, .inr ⟨g, 0, rfl, fun i x hi => ?_⟩⟩
    have := h.cells (g := g) rfl i (.int .i64 x) (by rw [List.getElem?_map, hi]; rfl)
    rw [Go.WideShapes.add_plain] at this
    exact this
def fateF (l : List Int) (k : Nat) : Int := l.getD k 0
def restartS (S : DS) (l : List Int) : DS := { S with L := setl (fateF l) S.W S.L S.W.length, W := [], fuse := -1, dead := false }
theorem write_nil (at_ : Int) (w : World) : Calls Try.prog 19 #[.pointer none, .int .i64 at_, .slice none 0 0] w fun e w' => e = .returned (.int .i64 8) ∧ Below w.heap.size w w' := by
  go_enter Try.func19, Try.ntmps19
  go_wp2_with fail
  refine (sure_nil _ _ _ _).mono ?_
  rintro e w1 ⟨rfl, rfl⟩
  go_wp2_with fail
  go_ret
  exact ⟨rfl, by go_grown⟩
theorem flush_nil (w : World) : Calls Try.prog 60 #[.pointer none] w fun e w' => e = .returned (.int .i64 8) ∧ Below w.heap.size w w' := by
  go_enter Try.func60, Try.ntmps60
  go_wp2_with fail
  refine (sure_nil _ _ _ _).mono ?_
  rintro e w1 ⟨rfl, rfl⟩
  go_wp2_with fail
  go_ret
  exact ⟨rfl, by go_grown⟩
end
end Go.Proofs.Ytlmngghkhnnaeaa
