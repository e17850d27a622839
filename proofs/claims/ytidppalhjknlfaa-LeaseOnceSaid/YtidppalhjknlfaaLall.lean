/- lease.all: the iterator over a tenant's leases. -/
import Derived.Test.YtidppalhjknlfaaEntry
import Derived.Test.YtidppalhjknlfaaLeLaw
import Derived.Test.YtidppalhjknlfaaScan3
import Derived.RangeFuncNested
import Derived.RangeFuncBound
import Derived.RangeFuncCalls
import Derived.RangeFuncLeaves
import Derived.Shelf.Abstract
import Derived.Shelf.RegionOpen
import Derived.WalkKit
import Derived.OwnWalkIn
import Derived.TacticsInMore
import Derived.LoopNIn
import Derived.LoopIn
import Derived.Deep.DeepCutAuto
namespace Go.Proofs.Ytidppalhjknlfaa
open Go.RowKit Go.Shelf
set_option maxRecDepth 100000
set_option linter.unusedVariables false
set_option linter.unusedSimpArgs false
attribute [local go_sem] Oper.semAt_some
/-- WHAT A ROUND KEEPS: blocks of cells, but for block B (the variable that collects) and those of leases -/
def KpL (B : Nat) (W W' : World) : Prop := W.heap.size ≤ W'.heap.size ∧ (∀ k c e z, W.heap[k]? = some (.cells c e z) → k ≠ B → e ≠ 31 → W'.heap[k]? = some (.cells c e z)) ∧ ∀ c e z, W.heap[B]? = some (.cells c e z) → ∃ c' z', W'.heap[B]? = some (.cells c' e z')
theorem KpL.trans {B : Nat} {X Y Z : World} (h : KpL B X Y) (k : KpL B Y Z) : KpL B X Z := ⟨Nat.le_trans h.1 k.1, fun i c e z hi hB he => k.2.1 i c e z (h.2.1 i c e z hi hB he) hB he, fun c e z hb => by obtain ⟨c', z', h'⟩ := h.2.2 c e z hb; exact k.2.2 c' e z' h'⟩
theorem KpL.putObj {B : Nat} (W : World) (l : Nat) (o o' : Obj) (h : W.heap[l]? = some o) (hc : o.isCells = false) : KpL B W (W.putObj l o') := by
  have hg := grownBy_putObj' W l o'
  have hs : ∀ (k : Nat) c e z, W.heap[k]? = some (.cells c e z) → (W.putObj l o').heap[k]? = some (.cells c e z) := fun k c e z hk => by
    refine (hg.block k (Array.getElem?_eq_some_iff.1 hk).1 (fun e' => ?_)).trans hk
    injection e' with e'
    subst e'
    rw [hk] at h; cases h; cases hc
  exact ⟨hg.size, fun k c e z hk _ _ => hs k c e z hk, fun c e z hk => ⟨c, z, hs B c e z hk⟩⟩
theorem KpL.below {B : Nat} {W W' : World} (h : Below W.heap.size W W') : KpL B W W' :=
  ⟨h.size, fun k c e z hk _ _ => (Keep.ofBelow h (fun _ => False)).blk hk (fun h => h), fun c e z hk => ⟨c, z, (Keep.ofBelow h (fun _ => False)).blk hk (fun h => h)⟩⟩
theorem PT.kpl {B : Nat} {W W' : World} {v : Value} {l : AL} (h : PT W v l) (hk : KpL B W W') (hB : ∀ c e z, W.heap[B]? = some (.cells c e z) → e ≠ 80 ∧ e ≠ 5) : PT W' v l := by
  obtain ⟨a, cap, rfl, h1, h2, h3⟩ := h
  refine ⟨a, cap, rfl, h1, h2, ?_⟩
  rcases h3 with h3 | ⟨g, rfl, ⟨cur, z, hg⟩, h3⟩
  · exact .inl h3
  · have n1 : (80 : TypeId) ≠ 31 := by decide
    have n2 : (5 : TypeId) ≠ 31 := by decide
    have hg' := hk.2.1 _ _ _ _ hg (fun e => by subst e; exact (hB _ _ _ hg).1 rfl) n1
    have bl : ∀ v s, BL 5 W v s → BL 5 W' v s := by
      rintro v s ⟨b, c, cs, z, rfl, q1, q2, q3, q4⟩
      exact ⟨b, c, cs, z, rfl, q1, q2, hk.2.1 _ _ _ _ q3 (fun e => by subst e; exact (hB _ _ _ q3).2 rfl) n2, q4⟩
    refine .inr ⟨g, rfl, ⟨cur, z, hg'⟩, fun i p hp => ?_⟩
    obtain ⟨kv, vv, c1, c2, b1, b2⟩ := h3 i p hp
    rw [blk_cell hg] at c1 c2
    exact ⟨kv, vv, by rw [blk_cell hg']; exact c1, by rw [blk_cell hg']; exact c2, bl _ _ b1, bl _ _ b2⟩
theorem grown_below {W W' : World} (h : Below W.heap.size W W') : W.grownBy W' none := ⟨h.os, h.tape, h.output, h.size, fun k hk _ => h.block k hk⟩
theorem abides_below {β : Type} {B : Nat} {J : β → World → Prop} (hJ : AbidesFrom B J) {s : β} {W W' : World} (h : J s W) (hb : Below W.heap.size W W') : J s W' := hJ s W W' none h (grown_below hb) (fun r e => by cases e)
theorem US.nil (w : World) : US w (.slice none 0 0) [] := ⟨none, 0, rfl, fun i hi => absurd hi (by simp), .inl rfl⟩
theorem US.lit1 (w : World) (x : Int) (h0 : 0 ≤ x) (h1 : x ≤ 18446744073709551615) (e : TypeId) : US (w.alloc (.cells #[.int .u64 x] e)) (.slice (some ⟨w.heap.size, 0, none⟩) 1 1) [x] := by
  refine ⟨_, _, rfl, fun i hi => ?_, .inr ⟨_, 0, rfl, fun i hi => ?_⟩⟩
  · have : i = 0 := by simp at hi; exact hi
    subst this; exact ⟨h0, h1⟩
  · have : i = 0 := by simp at hi; exact hi
    subst this
    rw [blk_cell (blk_new w _)]; rfl
set_option maxHeartbeats 1000000 in
theorem all1_stops (n : Nat) (hn : 1 ≤ n) (B p b1 b2 qs qt : Nat) (room : Int) (now was : AL) (t : Int) (ht : U32 t) (L : List Ls) (last : Int) (T0 : TypeId) (v0 : Value) (w : World) (hM : MemIs w p room b1 b2 now was) (hSm : Small now) (hN : AL.ND now) (hL : LS now t L last) (hl : L.length ≤ 1000000)
    (cs : w.cell? ⟨qs, 0, none⟩ = some (sV p)) (ct : w.cell? ⟨qt, 0, none⟩ = some (.int .u32 t)) (hB : Boxed w B T0 v0) (hT0 : T0 ≠ 80 ∧ T0 ≠ 5) :
    SeqStopsK Fence.wide n Try.prog 39 #[.pointer (some ⟨qs, 0, none⟩), .pointer (some ⟨qt, 0, none⟩)] (fun x : Ls => #[x.val, .int .i64 0]) (KpL B) (fun xs => xs = L) (fun pre => pre <+: L) L.length w := by
  intro l J Jx W hW hJ hJx hY h0
  have hk := Keep.ofBelow hW (fun _ => False)
  have HM := Lib.hid (show MemIs W.drew p room b1 b2 now was from (hM.below hW).below ((Below.refl _ _).drew))
  have e3 : sV p = .iface 24 (.pointer (some ⟨p, 0, none⟩)) := rfl
  rw [e3] at cs
  have C0 := Lib.hid (show W.drew.cell? ⟨qs, 0, none⟩ = some (.iface 24 (.pointer (some ⟨p, 0, none⟩))) ∧ W.drew.cell? ⟨qt, 0, none⟩ = some (.int .u32 t) from ⟨hk.cell cs (fun h => h), hk.cell ct (fun h => h)⟩)
  have SS := Lib.hid fun (X : World) (hb : Below W.drew.heap.size W.drew X) => show X.cell? ⟨qs, 0, none⟩ = some (.iface 24 (.pointer (some ⟨p, 0, none⟩))) ∧ X.cell? ⟨qt, 0, none⟩ = some (.int .u32 t) from ⟨(Keep.ofBelow hb (fun _ => False)).cell C0.out.1 (fun h => h), (Keep.ofBelow hb (fun _ => False)).cell C0.out.2 (fun h => h)⟩
  have hBx : Boxed W B T0 v0 := hk.blk hB (fun h => h)
  have hsc := hL.scan hN
  have HSC := Lib.hid fun sv X hX hS => scan_pt p room b1 b2 now was sv (lp t) X hX hS hSm hN
  rw [hsc] at HSC
  unfold sV pV at HSC
  have HX := Lib.hid hBx
  have H0 := Lib.hid h0
  have HJ := Lib.hid hJ
  have HY := Lib.hid hY
  have HL := Lib.hid hL
  have t0 : 0 ≤ t := ht.1
  have t1 : t ≤ 4294967295 := ht.2
  have tw : IntKind.u64.wrap t = t := by rw [IntKind.wrap_u64]; omega
  have U1 := Lib.hid fun e : TypeId => show US (W.drew.alloc (.cells #[.int .u64 t] e)) (.slice (some ⟨W.heap.size, 0, none⟩) 1 1) [t] from US.lit1 W.drew t t0 (by omega) e
  clear hk cs ct hB hBx hsc hSm h0 hY hJ hL ht hM e3
  refine callsIn_of_wp Try.func39 rfl trivial ?_ rfl
  simp only [Try.ntmps39, List.size_toArray, List.length_cons, List.length_nil, Nat.reduceAdd, Nat.reduceSub, Array.replicate_succ, Array.replicate_zero, List.push_toArray, List.append_toArray, List.nil_append, List.cons_append]
  refine wpIn_wide.2 ?_
  go_upto_region 0 with fail
  refine wp_region_held_drew (S := (fun w' => w'.cell? ⟨qs, 0, none⟩ = some (.iface 24 (.pointer (some ⟨p, 0, none⟩))) ∧ w'.cell? ⟨qt, 0, none⟩ = some (.int .u32 t))) (by kernel_rfl) ?_ (fun hHeld0 => ?_)
  · (try dsimp only)
    first | with_reducible exact C0.out | with_reducible exact SZ2.out | with_reducible exact SZ1.out | with_reducible exact SS.out _ ((Below.refl _ _).alloc (Nat.le_refl _) _)
  refine takeN (v := ?_) 0 rfl (by kernel_rfl) (by kernel_rfl) (by kernel_rfl) (fun _ _ _ h => h) (by rfl) ?_ hHeld0 ?_
  rotate_left
  · intro w hSw; (try dsimp only at hSw); go_simp; with_reducible rfl
  try simp only [Act.put, List.setIfInBounds_toArray, List.set_cons_zero, List.set_cons_succ]
  refine takeN (v := ?_) 1 rfl (by kernel_rfl) (by kernel_rfl) (by kernel_rfl) (fun _ _ _ h => h) (by rfl) ?_ hHeld0 ?_
  rotate_left
  · intro w hSw; (try dsimp only at hSw); go_simp; with_reducible rfl
  try simp only [Act.put, List.setIfInBounds_toArray, List.set_cons_zero, List.set_cons_succ]
  refine takeN (v := ?_) 2 rfl (by kernel_rfl) (by kernel_rfl) (by kernel_rfl) (fun _ _ _ h => h) (by rfl) ?_ hHeld0 ?_
  rotate_left
  · intro w hSw; (try dsimp only at hSw); go_simp; with_reducible rfl
  try simp only [Act.put, List.setIfInBounds_toArray, List.set_cons_zero, List.set_cons_succ]
  refine wpAnyH_ready (rs := [3]) (by kernel_rfl) (by simp) ?_
  refine readyN rfl (fun K hK => ?_) ?_
  · -- operation 3
    go_simp
    refine hK.out _ _ ?_ (fun hHeld1 => ?_)
    · (try dsimp only)
      first | with_reducible exact C0.out | with_reducible exact SZ2.out | with_reducible exact SZ1.out | with_reducible exact SS.out _ ((Below.refl _ _).alloc (Nat.le_refl _) _)
    clear hK K hHeld0
    try simp only [Act.put, List.setIfInBounds_toArray, List.set_cons_zero, List.set_cons_succ]
    refine wpAnyH_ready (rs := [4]) (by kernel_rfl) (by simp) ?_
    refine readyN rfl (fun K hK => ?_) ?_
    · -- operation 4
      go_simp
      first
        | (go_at_call 25; refine (key_any 108 (by decide) (by decide) _ [t] _ (U1.out _) (by simp)).mono ?_; rintro e w1 ⟨v1, rfl, ho, hb⟩
           have B1 := Lib.hid (below_and ((Below.refl _ _).alloc (Nat.le_refl _) _) hb)
           have O1 := Lib.hid (show BS w1 v1 (lp t) from ho.bs)
           have SZ1 := Lib.hid (SS.out w1 B1.out)
           clear ho hb)
        | (go_at_call 40; refine (HSC.out v1 w1 (HM.out.below B1.out) O1.out).mono ?_; rintro e w2 ⟨v2, rfl, hp, hb⟩
           have B2 := Lib.hid (below_and B1.out hb)
           have P2 := Lib.hid hp
           have SZ2 := Lib.hid (SS.out w2 B2.out)
           clear hp hb)
      go_wp2_with fail
      refine hK.out _ _ ?_ (fun hHeld2 => ?_)
      · (try dsimp only)
        first | with_reducible exact C0.out | with_reducible exact SZ2.out | with_reducible exact SZ1.out | with_reducible exact SS.out _ ((Below.refl _ _).alloc (Nat.le_refl _) _)
      clear hK K hHeld1
      try simp only [Act.put, List.setIfInBounds_toArray, List.set_cons_zero, List.set_cons_succ]
      refine wpAnyH_ready (rs := [5]) (by kernel_rfl) (by simp) ?_
      refine readyN rfl (fun K hK => ?_) ?_
      · -- operation 5
        go_simp
        first
          | (go_at_call 25; refine (key_any 108 (by decide) (by decide) _ [t] _ (U1.out _) (by simp)).mono ?_; rintro e w1 ⟨v1, rfl, ho, hb⟩
             have B1 := Lib.hid (below_and ((Below.refl _ _).alloc (Nat.le_refl _) _) hb)
             have O1 := Lib.hid (show BS w1 v1 (lp t) from ho.bs)
             have SZ1 := Lib.hid (SS.out w1 B1.out)
             clear ho hb)
          | (go_at_call 40; refine (HSC.out v1 w1 (HM.out.below B1.out) O1.out).mono ?_; rintro e w2 ⟨v2, rfl, hp, hb⟩
             have B2 := Lib.hid (below_and B1.out hb)
             have P2 := Lib.hid hp
             have SZ2 := Lib.hid (SS.out w2 B2.out)
             clear hp hb)
        go_wp2_with fail
        refine hK.out _ _ ?_ (fun hHeld3 => ?_)
        · (try dsimp only)
          first | with_reducible exact C0.out | with_reducible exact SZ2.out | with_reducible exact SZ1.out | with_reducible exact SS.out _ ((Below.refl _ _).alloc (Nat.le_refl _) _)
        clear hK K hHeld2
        try simp only [Act.put, List.setIfInBounds_toArray, List.set_cons_zero, List.set_cons_succ]
        refine takeN (v := ?_) 6 rfl (by kernel_rfl) (by kernel_rfl) (by kernel_rfl) (fun _ _ _ h => h) (by rfl) ?_ hHeld3 ?_
        rotate_left
        · intro w hSw; (try dsimp only at hSw); go_simp; with_reducible rfl
        try simp only [Act.put, List.setIfInBounds_toArray, List.set_cons_zero, List.set_cons_succ]
        refine takeN (v := ?_) 7 rfl (by kernel_rfl) (by kernel_rfl) (by kernel_rfl) (fun _ _ _ h => h) (by rfl) ?_ hHeld3 ?_
        rotate_left
        · intro w hSw; (try dsimp only at hSw); go_simp; with_reducible rfl
        try simp only [Act.put, List.setIfInBounds_toArray, List.set_cons_zero, List.set_cons_succ]
        refine takeN (v := ?_) 8 rfl (by kernel_rfl) (by kernel_rfl) (by kernel_rfl) (fun _ _ _ h => h) (by rfl) ?_ hHeld3 ?_
        rotate_left
        · intro w hSw; (try dsimp only at hSw); go_simp; with_reducible rfl
        try simp only [Act.put, List.setIfInBounds_toArray, List.set_cons_zero, List.set_cons_succ]
        refine takeN (v := ?_) 9 rfl (by kernel_rfl) (by kernel_rfl) (by kernel_rfl) (fun _ _ _ h => h) (by rfl) ?_ hHeld3 ?_
        rotate_left
        · intro w hSw; (try dsimp only at hSw); go_simp; with_reducible rfl
        try simp only [Act.put, List.setIfInBounds_toArray, List.set_cons_zero, List.set_cons_succ]
        refine takeN (v := ?_) 10 rfl (by kernel_rfl) (by kernel_rfl) (by kernel_rfl) (fun _ _ _ h => h) (by rfl) ?_ hHeld3 ?_
        rotate_left
        · intro w hSw; (try dsimp only at hSw); go_simp; with_reducible rfl
        try simp only [Act.put, List.setIfInBounds_toArray, List.set_cons_zero, List.set_cons_succ]
        refine wpAnyH_done (by kernel_rfl) ?_ _
        have hb2 : Below W.heap.size W w2 := ((Below.refl W.heap.size W).drew).trans B2.out
        have HJ2 := Lib.hid (abides_below HJ.out H0.out hb2)
        have HX2 := Lib.hid (show Boxed w2 B T0 v0 from (Keep.ofBelow hb2 (fun _ => False)).blk HX.out (fun h => h))
        have hpl : (prs t L).length = L.length := by simp [prs]
        have HP2 := Lib.hid P2.out
        have hk0 := P2.out
        obtain ⟨a, cap, rfl, hc1, hc2, hc3⟩ := hk0
        rw [hpl] at HP2 ⊢
        clear hpl hc3 hb2 P2 SZ2 SZ1 B1 O1 B2 C0 SS HM HSC hc1 hc2 U1 tw
        go_wp2_with fail
        refine (wpIn_wide (n := n)).1 ?_
        gi_loopw [27] (fun i wr => ∃ j : Nat, j ≤ L.length ∧ i = .int .i64 j ∧ Hid (J (L.take j) wr) ∧ Hid (PT wr (.slice a L.length cap) (prs t L)) ∧ Hid (∃ c z, wr.heap[B]? = some (.cells c T0 z))) (fun i _ => L.length - (intOf i).toNat)
        case atStart => exact ⟨0, by omega, rfl, HJ2, HP2, Lib.hid ⟨_, _, HX2.out⟩⟩
        case round =>
          obtain ⟨j, hj, rfl, HJs, HPs, HBs⟩ := hrel
          by_cases hlt : j < L.length
          · obtain ⟨x, hx⟩ : ∃ x, L[j]? = some x := ⟨_, List.getElem?_eq_getElem hlt⟩
            have hpx : (prs t L)[j]? = some (lk t x.id, x.enc) := by unfold prs; rw [List.getElem?_map, hx]; rfl
            have hok : x.Ok := (HL.out.ok x (List.mem_of_getElem? hx)).1
            have htk : L.take (j + 1) = L.take j ++ [x] := by rw [List.take_add_one, hx]; rfl
            obtain ⟨a', cap', he, hq1, hq2, h3⟩ := HPs.out.pr
            injection he with he hle hcap
            subst he; subst hcap
            clear hle hq1 hq2
            rcases h3 with h3 | ⟨g, rfl, h3⟩
            · rw [h3] at hpx; simp at hpx
            · obtain ⟨kv, vv, c1, c2, e1, e2⟩ := h3 j _ hpx
              obtain ⟨ak, ck, rfl⟩ := e1.len
              obtain ⟨av, cv, rfl⟩ := e2.len
              rw [Nat.mul_comm] at c1 c2
              have HG := Lib.hid fun o => get_lease x hok _ _ (e2.alloc o)
              clear h3 e1 e2
              obtain ⟨id, un, ex, dy, mo⟩ := x
              unfold Ls.val at HG
              have HLL := Lib.hid (show (L.take j).length < L.length by rw [List.length_take]; omega)
              have HTK := Lib.hid htk
              have hi1 : ((j : Int) < (L.length : Int)) := by omega
              clear hx hpx htk hok
              gi_wp2_with (refine ⟨trivial, ?_⟩; gi_at_call 41; refine (callsIn_wide.2 (HG.out _)).mono ?_; rintro e w4 ⟨rfl, hb4⟩
                           have HB4 := Lib.hid ((((Below.refl wr.heap.size wr).alloc (Nat.le_refl _) _).trans (hb4.mono (by simp))).alloc (by have := hb4.size; simp at this; omega) (.cells #[.int .u32 id, .int .i64 un, .int .i64 ex, .int .i64 dy, .int .i64 mo] 31))
                           obtain ⟨fn, tmps, assign, body, hy, hR⟩ := HY.out _ ⟨id, un, ex, dy, mo⟩ _ (abides_below HJ.out HJs.out HB4.out) HLL.out
                           have HR := Lib.hid hR
                           dsimp only [Ls.val] at hy
                           clear hb4 hR)
              refine HR.out.mono ?_
              rintro e W3 (⟨rfl, hJ3, hk3⟩ | ⟨rfl, hJx3⟩)
              · have HJ3 := Lib.hid (show J (L.take (j + 1)) W3 by rw [HTK.out]; exact hJ3)
                obtain ⟨cB, zB, hBB⟩ := HBs.out
                have hB5 := (Keep.ofBelow HB4.out (fun _ => False)).blk hBB (fun h => h)
                have HP3 := Lib.hid (((HPs.out).below HB4.out).kpl hk3 (fun c e z h => by rw [hB5] at h; cases h; exact hT0))
                have HB3 := Lib.hid (hk3.2.2 _ _ _ hB5)
                clear hBB hB5
                clear hJ3 hk3
                gi_wp2
                go_roundw
                case rel => exact ⟨j + 1, by omega, by simp, HJ3, HP3, HB3⟩
                case measure => simp [intOf]; omega
              · have HX3 := Lib.hid hJx3
                clear hJx3
                gi_wp2
                refine bodyPost_ret (results_none rfl _ _ _) rfl ?_
                exact ⟨⟨_, rfl⟩, .inr ⟨_, by rw [← HTK.out]; exact List.take_prefix _ _, HX3.out⟩⟩
          · obtain rfl : j = L.length := by omega
            have HE := Lib.hid (show J L wr by have := HJs.out; rwa [List.take_length] at this)
            gi_wp2
            go_end0
            exact ⟨⟨_, rfl⟩, .inl ⟨_, rfl, HE.out⟩⟩
      exact AllReadyH.nil
    exact AllReadyH.nil
  exact AllReadyH.nil
end Go.Proofs.Ytidppalhjknlfaa
