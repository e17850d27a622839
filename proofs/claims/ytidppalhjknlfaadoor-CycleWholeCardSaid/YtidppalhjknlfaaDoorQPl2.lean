/- Plans: the numbers of a plan, one after another. -/
import Derived.Test.YtidppalhjknlfaaDoorQPl
import Derived.Deep.DeepCutAuto
import Derived.RangeFuncCalls
import Derived.RangeFuncBound
import Derived.Shelf.RegionOpen
namespace Go.Proofs.YtidppalhjknlfaaDoor
open Go.RowKit Go.Shelf
set_option maxRecDepth 100000
set_option maxHeartbeats 1000000
set_option linter.unusedVariables false
set_option linter.unusedSimpArgs false
/-- what a round of a loop over a plan's numbers leaves: pointers -/
def KpN (W W' : World) : Prop := W.heap.size ≤ W'.heap.size ∧ ∀ (k : Nat) (c : Array Value) (e : TypeId) (z : Nat × Nat), W.heap[k]? = some (.cells c e z) → (e = 113 ∨ e = 114) → W'.heap[k]? = some (.cells c e z)
theorem KpN.trans {X Y Z : World} (h : KpN X Y) (k : KpN Y Z) : KpN X Z := ⟨Nat.le_trans h.1 k.1, fun i c e z hi he => k.2 i c e z (h.2 i c e z hi he) he⟩
theorem KpN.putObj (W : World) (l : Nat) (o o' : Obj) (h : W.heap[l]? = some o) (hc : o.isCells = false) : KpN W (W.putObj l o') := by
  have hg := grownBy_putObj' W l o'
  refine ⟨hg.size, fun k c e z hk _ => (hg.block k (Array.getElem?_eq_some_iff.1 hk).1 (fun e' => ?_)).trans hk⟩
  injection e' with e'
  subst e'
  rw [hk] at h; cases h; cases hc
theorem KpN.keep {F : Nat → Prop} {W W' : World} (h : Keep F W W') (hF : ∀ (k : Nat) (c : Array Value) (e : TypeId) (z : Nat × Nat), W.heap[k]? = some (.cells c e z) → (e = 113 ∨ e = 114) → ¬ F k) : KpN W W' :=
  ⟨h.size, fun k c e z hk he => h.blk hk (hF k c e z hk he)⟩
theorem KpN.below {W W' : World} (h : Below W.heap.size W W') : KpN W W' := KpN.keep (Keep.ofBelow h (fun _ => False)) (fun _ _ _ _ _ _ h => h)
theorem grownN_below {W W' : World} (h : Below W.heap.size W W') : W.grownBy W' none := ⟨h.os, h.tape, h.output, h.size, fun k hk _ => h.block k hk⟩
theorem abidesN_below {β : Type} {B : Nat} {J : β → World → Prop} (hJ : AbidesFrom B J) {s : β} {W W' : World} (h : J s W) (hb : Below W.heap.size W W') : J s W' := hJ s W W' none h (grownN_below hb) (fun r e => by cases e)
/-- the most that a plan's number may be -/
def mostN (x : Fin 5) : Int := if x.val = 4 then 1125899906842624 else 1099511627776
def NUMS : List (Fin 5) := [0, 1, 2, 3, 4]
theorem nums1_stops (n : Nat) (hn : 1 ≤ n) (b q : Nat) (w : World) (hq : w.heap[q]? = some (.cells #[.pointer (some ⟨b, 0, none⟩)] 113 (0, 0))) :
    SeqStopsK Fence.wide n Tryd.prog 70 #[.pointer (some ⟨q, 0, none⟩)] (fun x : Fin 5 => #[.pointer (some ⟨b, x.val + 1, none⟩), .int .i64 (mostN x)]) KpN (fun xs => xs = NUMS) (fun pre => pre <+: NUMS) 5 w := by
  intro l J Jx W hW hJ hJx hY h0
  have hqW := (Keep.ofBelow hW (fun _ => False)).blk hq (fun h => h)
  have c0 : W.drew.cell? ⟨q, 0, none⟩ = some (.pointer (some ⟨b, 0, none⟩)) := by
    show W.cell? _ = _
    rw [blk_cell hqW]; rfl
  have C0 := Lib.hid c0
  have HQ := Lib.hid hqW
  have CA := Lib.hid fun (o : Obj) => show (W.alloc o).drew.cell? ⟨q, 0, none⟩ = some (.pointer (some ⟨b, 0, none⟩)) from ((Keep.refl (fun _ => False) W).alloc o).cell c0 (fun h => h)
  have HJ := Lib.hid hJ
  have HY := Lib.hid hY
  have H0 := Lib.hid h0
  clear hq hqW hJ hY h0
  refine callsIn_of_wp Tryd.func70 rfl trivial ?_ rfl
  simp only [Tryd.ntmps70, List.size_toArray, List.length_cons, List.length_nil, Nat.reduceAdd, Nat.reduceSub, Array.replicate_succ, Array.replicate_zero, List.push_toArray, List.append_toArray, List.nil_append, List.cons_append]
  refine wpIn_wide.2 ?_
  go_upto_region 0 with fail
  refine wp_region_held_drew (S := (fun w' => w'.cell? ⟨q, 0, none⟩ = some (.pointer (some ⟨b, 0, none⟩)))) (by kernel_rfl) ?_ (fun hHeld0 => ?_)
  · (try dsimp only)
    first | with_reducible exact C0.out | with_reducible exact CA.out _
  refine takeN (v := ?_) 0 rfl (by kernel_rfl) (by kernel_rfl) (by kernel_rfl) (fun _ _ _ h => h) (by rfl) ?_ hHeld0 ?_
  rotate_left
  · intro w hSw; (try dsimp only at hSw); go_simp; with_reducible rfl
  try simp only [Act.put, List.setIfInBounds_toArray, List.set_cons_zero, List.set_cons_succ]
  refine takeN (v := ?_) 1 rfl (by kernel_rfl) (by kernel_rfl) (by kernel_rfl) (fun _ _ _ h => h) (by rfl) ?_ hHeld0 ?_
  rotate_left
  · intro w hSw; (try dsimp only at hSw); go_simp; with_reducible rfl
  try simp only [Act.put, List.setIfInBounds_toArray, List.set_cons_zero, List.set_cons_succ]
  refine takeN (v := ?_) 2 rfl (by kernel_rfl) (by kernel_rfl) (by kernel_rfl) (fun _ _ _ h => h) (by rfl) ?_ hHeld0 ?_
  rotate_left
  · intro w hSw; (try dsimp only at hSw); go_simp; with_reducible rfl
  try simp only [Act.put, List.setIfInBounds_toArray, List.set_cons_zero, List.set_cons_succ]
  refine takeN (v := ?_) 3 rfl (by kernel_rfl) (by kernel_rfl) (by kernel_rfl) (fun _ _ _ h => h) (by rfl) ?_ hHeld0 ?_
  rotate_left
  · intro w hSw; (try dsimp only at hSw); go_simp; with_reducible rfl
  try simp only [Act.put, List.setIfInBounds_toArray, List.set_cons_zero, List.set_cons_succ]
  refine takeN (v := ?_) 4 rfl (by kernel_rfl) (by kernel_rfl) (by kernel_rfl) (fun _ _ _ h => h) (by rfl) ?_ hHeld0 ?_
  rotate_left
  · intro w hSw; (try dsimp only at hSw); go_simp; with_reducible rfl
  try simp only [Act.put, List.setIfInBounds_toArray, List.set_cons_zero, List.set_cons_succ]
  refine takeN (v := ?_) 5 rfl (by kernel_rfl) (by kernel_rfl) (by kernel_rfl) (fun _ _ _ h => h) (by rfl) ?_ hHeld0 ?_
  rotate_left
  · intro w hSw; (try dsimp only at hSw); go_simp; with_reducible rfl
  try simp only [Act.put, List.setIfInBounds_toArray, List.set_cons_zero, List.set_cons_succ]
  refine takeN (v := ?_) 6 rfl (by kernel_rfl) (by kernel_rfl) (by kernel_rfl) (fun _ _ _ h => h) (by rfl) ?_ hHeld0 ?_
  rotate_left
  · intro w hSw; (try dsimp only at hSw); go_simp; with_reducible rfl
  try simp only [Act.put, List.setIfInBounds_toArray, List.set_cons_zero, List.set_cons_succ]
  refine takeN (v := ?_) 7 rfl (by kernel_rfl) (by kernel_rfl) (by kernel_rfl) (fun _ _ _ h => h) (by rfl) ?_ hHeld0 ?_
  rotate_left
  · intro w hSw; (try dsimp only at hSw); go_simp; with_reducible rfl
  try simp only [Act.put, List.setIfInBounds_toArray, List.set_cons_zero, List.set_cons_succ]
  refine takeN (v := ?_) 8 rfl (by kernel_rfl) (by kernel_rfl) (by kernel_rfl) (fun _ _ _ h => h) (by rfl) ?_ hHeld0 ?_
  rotate_left
  · intro w hSw; (try dsimp only at hSw); go_simp; with_reducible rfl
  try simp only [Act.put, List.setIfInBounds_toArray, List.set_cons_zero, List.set_cons_succ]
  refine takeN (v := ?_) 9 rfl (by kernel_rfl) (by kernel_rfl) (by kernel_rfl) (fun _ _ _ h => h) (by rfl) ?_ hHeld0 ?_
  rotate_left
  · intro w hSw; (try dsimp only at hSw); go_simp; with_reducible rfl
  try simp only [Act.put, List.setIfInBounds_toArray, List.set_cons_zero, List.set_cons_succ]
  refine takeN (v := ?_) 10 rfl (by kernel_rfl) (by kernel_rfl) (by kernel_rfl) (fun _ _ _ h => h) (by rfl) ?_ hHeld0 ?_
  rotate_left
  · intro w hSw; (try dsimp only at hSw); go_simp; with_reducible rfl
  try simp only [Act.put, List.setIfInBounds_toArray, List.set_cons_zero, List.set_cons_succ]
  refine takeN (v := ?_) 11 rfl (by kernel_rfl) (by kernel_rfl) (by kernel_rfl) (fun _ _ _ h => h) (by rfl) ?_ hHeld0 ?_
  rotate_left
  · intro w hSw; (try dsimp only at hSw); go_simp; with_reducible rfl
  try simp only [Act.put, List.setIfInBounds_toArray, List.set_cons_zero, List.set_cons_succ]
  refine takeN (v := ?_) 14 rfl (by kernel_rfl) (by kernel_rfl) (by kernel_rfl) (fun _ _ _ h => h) (by rfl) ?_ hHeld0 ?_
  rotate_left
  · intro w hSw; (try dsimp only at hSw); go_simp; with_reducible rfl
  try simp only [Act.put, List.setIfInBounds_toArray, List.set_cons_zero, List.set_cons_succ]
  refine wpAnyH_ready (rs := [12]) (by kernel_rfl) (by simp) ?_
  refine readyN rfl (fun K hK => ?_) ?_
  · -- operation 12
    go_simp
    refine hK.out _ _ ?_ (fun hHeld1 => ?_)
    · (try dsimp only)
      first | with_reducible exact C0.out | with_reducible exact CA.out _
    clear hK K hHeld0
    try simp only [Act.put, List.setIfInBounds_toArray, List.set_cons_zero, List.set_cons_succ]
    refine takeN (v := ?_) 13 rfl (by kernel_rfl) (by kernel_rfl) (by kernel_rfl) (fun _ _ _ h => h) (by rfl) ?_ hHeld1 ?_
    rotate_left
    · intro w hSw; (try dsimp only at hSw); go_simp; with_reducible rfl
    try simp only [Act.put, List.setIfInBounds_toArray, List.set_cons_zero, List.set_cons_succ]
    refine wpAnyH_done (by kernel_rfl) ?_ _
    obtain ⟨W1, hW1⟩ : ∃ W1, (W.alloc (.cells #[.pointer (some ⟨b, 1, none⟩), .pointer (some ⟨b, 2, none⟩), .pointer (some ⟨b, 3, none⟩), .pointer (some ⟨b, 4, none⟩)] 114)).drew = W1 := ⟨_, rfl⟩
    have hb1 : Below W.heap.size W W1 := by rw [← hW1]; exact ((Below.refl _ _).alloc (Nat.le_refl _) _).drew
    have hz1 : W1.heap[W.heap.size]? = some (.cells #[.pointer (some ⟨b, 1, none⟩), .pointer (some ⟨b, 2, none⟩), .pointer (some ⟨b, 3, none⟩), .pointer (some ⟨b, 4, none⟩)] 114 (0, 0)) := by rw [← hW1]; exact blk_new W _
    have HJ1 := Lib.hid (abidesN_below HJ.out H0.out hb1)
    have HQ1 := Lib.hid ((Keep.ofBelow hb1 (fun _ => False)).blk HQ.out (fun h => h))
    have HZ1 := Lib.hid hz1
    rw [hW1]
    clear hW1 hb1 hz1 C0 CA c0 H0 hW
    go_wp2_with fail
    refine (wpIn_wide (n := n)).1 ?_
    gi_loopw [19] (fun i wr => ∃ j : Nat, j ≤ 4 ∧ i = .int .i64 j ∧ Hid (J (NUMS.take j) wr) ∧ Hid (wr.heap[W.heap.size]? = some (.cells #[.pointer (some ⟨b, 1, none⟩), .pointer (some ⟨b, 2, none⟩), .pointer (some ⟨b, 3, none⟩), .pointer (some ⟨b, 4, none⟩)] 114 (0, 0))) ∧ Hid (wr.heap[q]? = some (.cells #[.pointer (some ⟨b, 0, none⟩)] 113 (0, 0)))) (fun i _ => 4 - (intOf i).toNat)
    case atStart => exact ⟨0, by omega, rfl, HJ1, HZ1, HQ1⟩
    case round =>
      obtain ⟨j, hj, rfl, HJs, HZ, HQQ⟩ := hrel
      by_cases hlt : j < 4
      · have hcj : wr.cell? ⟨W.heap.size, j, none⟩ = some (.pointer (some ⟨b, j + 1, none⟩)) := by
          rw [blk_cell HZ.out]
          match j, hlt with
          | 0, _ => rfl
          | 1, _ => rfl
          | 2, _ => rfl
          | 3, _ => rfl
        have htk : NUMS.take (j + 1) = NUMS.take j ++ [⟨j, by omega⟩] := by
          match j, hlt with
          | 0, _ => rfl
          | 1, _ => rfl
          | 2, _ => rfl
          | 3, _ => rfl
        have hi1 : ((j : Int) < 4) := by omega
        obtain ⟨fn, tmps, assign, body, hy, hR⟩ := HY.out _ ⟨j, by omega⟩ _ HJs.out (by rw [List.length_take]; show min j 5 < 5; omega)
        have HR := Lib.hid hR
        have HTK := Lib.hid htk
        rw [show mostN ⟨j, by omega⟩ = 1099511627776 by unfold mostN; rw [if_neg (by show ¬ j = 4; omega)]] at hy
        clear hR htk
        dsimp only at hy
        gi_wp2
        refine HR.out.mono ?_
        rintro e W3 (⟨rfl, hJ3, hk3⟩ | ⟨rfl, hJx3⟩)
        · have HJ3 := Lib.hid (show J (NUMS.take (j + 1)) W3 by rw [HTK.out]; exact hJ3)
          have HZ3 := Lib.hid (hk3.2 _ _ _ _ HZ.out (.inr rfl))
          have HQ3 := Lib.hid (hk3.2 _ _ _ _ HQQ.out (.inl rfl))
          clear hJ3 hk3
          gi_wp2
          go_roundw
          case rel => exact ⟨j + 1, by omega, by simp, HJ3, HZ3, HQ3⟩
          case measure => simp [intOf]; omega
        · have HX3 := Lib.hid hJx3
          clear hJx3
          gi_wp2
          refine bodyPost_ret (results_none rfl _ _ _) rfl ?_
          exact ⟨⟨_, rfl⟩, .inr ⟨_, by rw [← HTK.out]; exact List.take_prefix _ _, HX3.out⟩⟩
      · obtain rfl : j = 4 := by omega
        have hcq : wr.cell? ⟨q, 0, none⟩ = some (.pointer (some ⟨b, 0, none⟩)) := by rw [blk_cell HQQ.out]; rfl
        obtain ⟨fn, tmps, assign, body, hy, hR⟩ := HY.out _ 4 _ HJs.out (by decide)
        have HR := Lib.hid hR
        clear hR
        have hy2 : (#[.pointer (some ⟨b, (4 : Fin 5).val + 1, none⟩), .int .i64 (mostN 4)] : Array Value) = #[.pointer (some ⟨b, 5, none⟩), .int .i64 1125899906842624] := rfl
        rw [hy2] at hy
        clear hy2
        gi_wp2
        refine (wpIn_wide (n := n)).1 ?_
        gi_wp2
        refine HR.out.mono ?_
        rintro e W3 (⟨rfl, hJ3, hk3⟩ | ⟨rfl, hJx3⟩)
        · have HJ3 := Lib.hid (show J NUMS W3 from hJ3)
          clear hJ3 hk3
          gi_wp2
          go_end0
          exact ⟨⟨_, rfl⟩, .inl ⟨_, rfl, HJ3.out⟩⟩
        · have HX3 := Lib.hid (show Jx NUMS W3 from hJx3)
          clear hJx3
          gi_wp2
          go_end0
          exact ⟨⟨_, rfl⟩, .inr ⟨_, List.prefix_refl _, HX3.out⟩⟩
  exact AllReadyH.nil
theorem numbers_any (b : Nat) (w : World) :
    Calls Tryd.prog 55 #[.pointer (some ⟨b, 0, none⟩)] w fun e w' => e = .returned (.func (.func 70) #[] #[.pointer (some ⟨w.heap.size, 0, none⟩)]) ∧ w' = w.alloc (.cells #[.pointer (some ⟨b, 0, none⟩)] 113) := by
  go_enter Tryd.func55, Tryd.ntmps55
  go_wp2
  go_ret
  exact ⟨rfl, rfl⟩
theorem blk_own {β : Type} (B : Nat) (cs : Array Value) (T : TypeId) (n₀ : Nat) : OwnFrom n₀ (fun (_ : β) W => W.heap[B]? = some (.cells cs T (0, 0))) := by
  intro _ X Y row h hg hr
  refine (hg.block B (Array.getElem?_eq_some_iff.1 h).1 (fun e' => ?_)).trans h
  obtain ⟨_, o, ho, hc⟩ := hr B e'.symm
  rw [h] at ho; cases ho; cases hc
theorem pure_own {β : Type} (Q : β → Prop) (n₀ : Nat) : OwnFrom n₀ (fun (s : β) (_ : World) => Q s) := fun _ _ _ _ h _ _ => h
end Go.Proofs.YtidppalhjknlfaaDoor
