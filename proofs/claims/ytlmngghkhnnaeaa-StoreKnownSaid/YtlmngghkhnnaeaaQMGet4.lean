/- frame.Get. frame.Newest. -/
import Derived.Test.YtlmngghkhnnaeaaQPut4
import Derived.Test.YtlmngghkhnnaeaaQRdr2
namespace Go.Proofs.Ytlmngghkhnnaeaa
open Go.RowKit Go.Shelf
set_option maxRecDepth 100000
set_option maxHeartbeats 1000000
set_option linter.unusedVariables false
set_option linter.unusedSimpArgs false
attribute [local go_sem] Oper.semAt_some
/-- the inside of the sectors that were met -/
def stripF (page : ByteArray) (pre : List (Fin 8)) : ByteArray := pre.foldl (fun S x => S ++ page.extract (512 * x.val + 8) (512 * x.val + 512)) ByteArray.empty
theorem stripF_snoc (page : ByteArray) (pre : List (Fin 8)) (x : Fin 8) : stripF page (pre ++ [x]) = stripF page pre ++ page.extract (512 * x.val + 8) (512 * x.val + 512) := by simp [stripF, List.foldl_append]
theorem stripF_all (page : ByteArray) : stripF page SECS = strip page := rfl
theorem stripF_size (page : ByteArray) (hp : page.size = 4096) : ∀ (l : List (Fin 8)) (S : ByteArray), (l.foldl (fun S x => S ++ page.extract (512 * x.val + 8) (512 * x.val + 512)) S).size = S.size + 504 * l.length
  | [], S => by simp
  | x :: l, S => by
    have := x.isLt
    rw [List.foldl_cons, stripF_size page hp l, size_append, ByteArray.size_extract, List.length_cons]; omega
theorem row_blk {w : World} {B : Nat} {e : TypeId} {n k : Nat} {v : Value} {xs : List Value} (h : w.ownsRow B e n v k xs) : ∀ r, v.ownBlock = some r → ∃ c z, w.heap[r]? = some (.cells c e z) := by
  intro r hr
  rcases h.2 with ⟨rfl, _⟩ | ⟨g, cap, cur, rfl, hB, hg, rest⟩
  · cases hr
  · cases hr; exact ⟨_, _, hg⟩
/-- what Get hands back -/
def GetR (r : Option (ByteArray × Int)) (w0 : World) (e : Ending) (w' : World) : Prop :=
  match r with
  | none => e = .returned (.tuple #[.slice none 0 0, .int .u64 0, .bool false])
  | some (b, st) => ∃ v, e = .returned (.tuple #[v, .int .u64 st, .bool true]) ∧ Own 5 w' w0.heap.size v b
theorem rd_val (s : ByteArray) (n : Nat) (h : n ≤ s.size) : Rd.val ⟨s, false⟩ n = valB (s.extract 0 n) := by
  unfold Rd.val Rd.ok
  rw [decide_eq_true (show n ≤ s.size from h)]; rfl
theorem rd_skip (s : ByteArray) (n : Nat) (h : n ≤ s.size) : Rd.skip ⟨s, false⟩ n = ⟨s.extract n s.size, false⟩ := by
  unfold Rd.skip Rd.ok
  rw [decide_eq_true (show n ≤ s.size from h)]; rfl
theorem hd_stamp (page : ByteArray) (hp : page.size = 4096) : Rd.val ⟨page, false⟩ 8 = (stampAt page 0 : Int) := by
  rw [rd_val page 8 (by omega)]; rfl
theorem hd_skip (S : ByteArray) (hS : S.size = 4032) : Rd.skip ⟨S, false⟩ 8 = ⟨S.extract 8 4032, false⟩ := by
  rw [rd_skip S 8 (by omega), hS]
theorem hd_count (S : ByteArray) (hS : S.size = 4032) : Rd.count (Rd.skip (Rd.skip ⟨S, false⟩ 8) 1) 4011 = (lenF S : Int) := by
  have h1 : (S.extract 8 4032).size = 4024 := by rw [ByteArray.size_extract]; omega
  have h2 : ((S.extract 8 4032).extract 1 4024).size = 4023 := by rw [ByteArray.size_extract]; omega
  have h3 : ((S.extract 8 4032).extract 1 4024).extract 0 8 = S.extract 9 17 := by
    apply ba_at
    intro i
    rw [at_extract, at_extract, at_extract, at_extract]
    by_cases hi : i < 8
    · rw [if_pos (by omega), if_pos (by omega), if_pos (by omega), if_pos (by omega), show 8 + (1 + (0 + i)) = 9 + i by omega]
    · rw [if_neg (by omega), if_neg (by omega)]
  rw [hd_skip S hS, rd_skip _ 1 (by omega), h1]
  unfold Rd.count lenF
  rw [rd_val _ 8 (by omega), h3]
  by_cases hc : valB (S.extract 9 17) ≤ 4011
  · rw [if_pos hc, if_pos (by omega)]
  · rw [if_neg hc, if_neg (by omega)]; rfl
theorem fget_any (at_ kind : Int) (v : Value) (page : ByteArray) (a0 : 0 ≤ at_) (a1 : at_ < 4096) (k0 : 0 ≤ kind) (k1 : kind < 256) (w : World) (hS : BS w v page) (hp : page.size = 4096) :
    Calls Try.prog 10 #[v, .int .i64 at_, .int .u8 kind] w fun e w' => GetR (getF page at_ kind) w e w' ∧ Below w.heap.size w w' := by
  obtain ⟨a, c, rfl⟩ := hS.len
  obtain ⟨pb, po, rfl, hx0⟩ := hS.at_ (i := 0) (by omega)
  obtain ⟨hx1, hpc, hpm, hx2⟩ := hS.capm
  rw [hp] at hS hpc ⊢
  clear hx0 hx1 hx2
  have HS := Lib.hid hS
  have HPZ := Lib.hid hp
  have HSC := Lib.hid sectors_any
  clear hS hp
  refine (callsIn_wide (n := 9)).1 ?_
  refine callsIn_of_wp_marks Try.func10 rfl trivial ?_ rfl
  simp only [Try.ntmps10, List.size_toArray, List.length_cons, List.length_nil, Nat.reduceAdd, Nat.reduceSub, Array.replicate_succ, Array.replicate_zero, List.push_toArray, List.append_toArray, List.nil_append, List.cons_append]
  gi_wp2_with (refine ⟨trivial, ?_⟩; gi_at_call 36; refine (callsIn_wide.2 (HSC.out _)).mono ?_; rintro e w' ⟨rfl, rfl⟩)
  have p1 : Boxed ((w.alloc (.cells #[.slice (some ⟨pb, po, none⟩) 4096 c] 28)).alloc (.cells #[.slice none 0 0] 28)) w.heap.size 28 (.slice (some ⟨pb, po, none⟩) 4096 c) := (Boxed.new w _ _).alloc _
  have p2 : Boxed ((w.alloc (.cells #[.slice (some ⟨pb, po, none⟩) 4096 c] 28)).alloc (.cells #[.slice none 0 0] 28)) (w.heap.size + 1) 28 (.slice none 0 0) := blk_newAt (by simp) _
  have p3 : Below w.heap.size w ((w.alloc (.cells #[.slice (some ⟨pb, po, none⟩) 4096 c] 28)).alloc (.cells #[.slice none 0 0] 28)) := ((Below.refl _ w).alloc (Nat.le_refl _) _).alloc (by simp) _
  obtain ⟨W0, hW0⟩ : ∃ W0, (w.alloc (.cells #[.slice (some ⟨pb, po, none⟩) 4096 c] 28)).alloc (.cells #[.slice none 0 0] 28) = W0 := ⟨_, rfl⟩
  have hsz : W0.heap.size = w.heap.size + 2 := by rw [← hW0]; simp
  rw [hW0] at p1 p2 p3 ⊢
  clear hW0
  refine wpIn_rangeFunc_ownH rfl (by decide) (gf := 64) (lb := #[]) rfl trivial (enters_of Try.func64 (by kernel_rfl) rfl)
    (sec1_stops (9 - 1) (by decide) W0) (fun _ _ => trivial) (fun _ _ _ _ _ _ _ _ => trivial) (Below.refl _ _) (fun _ => rfl)
    (fun pre W => ((∃ v, Boxed W (w.heap.size + 1) 28 v ∧ W.ownsRow w.heap.size 5 1 v (stripF page pre).size (Lib.strCells (stripF page pre)) ∧ True) ∧ Boxed W w.heap.size 28 (.slice (some ⟨pb, po, none⟩) 4096 c)) ∧ Below w.heap.size w W)
    (fun _ _ _ => False)
    (OwnFrom.and (OwnFrom.and (Own.from (holdsRow_own w.heap.size (w.heap.size + 1) 28 5 1 (fun pre => (stripF page pre).size) (fun pre => Lib.strCells (stripF page pre)) (fun _ _ => True)) _) (blkf_own _ _ _ _)) (ownFrom_below (Nat.le_refl _) (by omega)))
    (fun _ _ _ _ _ hs _ _ => hs)
    ⟨⟨⟨_, p2, World.ownsRow_nil _ _ _ _, trivial⟩, p1⟩, p3⟩
    (fun x a' _ => a' = { tmps := #[Value.slice (some { block := pb, off := po }) 4096 c, Value.int IntKind.i64 at_, Value.int IntKind.u8 kind, Value.pointer (some { block := w.heap.size, off := 0 }), undef, undef, Value.slice none 0 0, Value.int IntKind.u64 0, Value.bool false, Value.pointer (some { block := w.heap.size + 1, off := 0 }), undef, Value.int IntKind.i64 ((x.val : Int) * 512), undef, undef, undef, undef, undef, undef, Value.slice (some { block := pb, off := po }) 4096 c, Value.int IntKind.i64 4096, Value.bool false, Value.func (Fn.func 64) #[] #[], Value.int IntKind.i64 ((x.val : Int) * 504), Value.int IntKind.i64 ((x.val : Int) * 512), undef, undef, undef, undef, undef, undef, undef, undef, undef, undef, undef, undef, undef, undef, undef, undef, undef, undef, undef, undef, undef, undef, undef, undef, undef, undef, undef, undef, undef, undef, undef, undef, undef, undef, undef, undef, undef, undef, undef, undef, undef, undef], defers := [] })
    (fun _ _ _ _ _ _ hs _ _ => hs)
    ?assign ?body ?done ?stop
  case assign =>
    rintro l pre x W K hI hK
    unfold secV
    gi_wp2
    exact hK _ _ (KeepsFrom.refl _ _) trivial hI rfl
  case body =>
    rintro l pre x a' W hl0 ⟨r, hr0⟩ ⟨⟨⟨v, b1, hr, _⟩, b2⟩, hB⟩ rfl hlt
    obtain ⟨k, hk⟩ := x
    have hsl : (stripF page pre).size = 0 + 504 * pre.length := stripF_size page HPZ.out pre ByteArray.empty
    have hsn := stripF_snoc page pre ⟨k, hk⟩
    dsimp only at hsn ⊢
    have ho : Own 5 W w.heap.size v (stripF page pre) := hr
    have hm : (stripF page pre).size ≤ 4032 := by omega
    obtain ⟨S, hS⟩ : ∃ S, S = stripF page pre := ⟨_, rfl⟩
    rw [← hS] at ho hsn hm
    obtain ⟨va, vc, rfl⟩ := ho.size
    obtain ⟨u, hu⟩ : ∃ u, u = page.extract (512 * k + 8) (512 * k + 512) := ⟨_, rfl⟩
    rw [← hu] at hsn
    have husz : u.size = 504 := by rw [hu, ByteArray.size_extract, HPZ.out]; omega
    have e6 : ∀ W : World, (Instr.slice 28 (.slice (some ⟨pb, po, none⟩) 4096 c) (some (.int .i64 ((k : Int) * 512 + 8))) (some (.int .i64 ((k : Int) * 512 + 512))) none).run Try.prog W = .ok (.slice (some ⟨pb, po + (512 * k + 8), none⟩) 504 (c - (512 * k + 8))) W := fun W => by
      have := slice_part pb po 4096 c (512 * k + 8) (512 * k + 512) ((k : Int) * 512 + 8) ((k : Int) * 512 + 512) (by omega) (by omega) (by omega) (by omega) (by omega) hpm W
      rwa [show 512 * k + 512 - (512 * k + 8) = 504 by omega] at this
    have hwr1 : IntKind.i64.wrap ((k : Int) * 512 + 8) = (k : Int) * 512 + 8 := by rw [IntKind.wrap_i64]; omega
    have hwr2 : IntKind.i64.wrap ((k : Int) * 512 + 512) = (k : Int) * 512 + 512 := by rw [IntKind.wrap_i64]; omega
    have hbu : BS W.drew (.slice (some ⟨pb, po + (512 * k + 8), none⟩) 504 (c - (512 * k + 8))) u := by
      have h1 : BS W (.slice (some ⟨pb, po, none⟩) page.size c) page := by rw [HPZ.out]; exact (HS.out.keep (Keep.ofBelow hB (fun i => w.heap.size ≤ i)) (fun b o x hc => by have := World.block_lt_of_cell? w _ hc; simp only at this; omega))
      have h2 := h1.cut (a' := some ⟨pb, po + (512 * k + 8), none⟩) (c' := c - (512 * k + 8)) (512 * k + 8) (512 * k + 512) (by omega) (by rw [HPZ.out]; omega) (fun _ => by rw [Option.map_some, Go.WideShapes.add_plain]) (by omega) (by omega) (fun h => by cases h)
      rw [show 512 * k + 512 - (512 * k + 8) = 504 by omega] at h2
      rw [hu]; exact h2
    have hwW := hB.size
    obtain ⟨v2, w2, hap, ho2, hg2⟩ := app_bs_ex W.drew w.heap.size 28 5 28 uBytes iByte (.slice va S.size vc) (.slice (some ⟨pb, po + (512 * k + 8), none⟩) 504 (c - (512 * k + 8))) S u (show Own 5 W.drew _ _ _ from ho) hbu (show w.heap.size ≤ W.heap.size from hwW) (by omega)
    obtain ⟨a2, c2, rfl⟩ := ho2.size
    obtain ⟨n2, hn2⟩ : ∃ n2, n2 = (S ++ u).size := ⟨_, rfl⟩
    rw [← hn2] at hap ho2 hg2
    have hrow : ∀ k, (Value.slice va S.size vc).ownBlock = some k → ∃ c z, W.heap[k]? = some (.cells c 5 z) := fun k hk => row_blk ho k hk
    have hne : ∀ B v, W.heap[B]? = some (.cells #[v] 28 (0, 0)) → ¬ (Value.slice va S.size vc).ownBlock = some B := fun B v hB e => by
      obtain ⟨c', z', h'⟩ := hrow B e
      rw [hB] at h'; cases h'
    have k2 : Keep (fun i => (Value.slice va S.size vc).ownBlock = some i) W w2 := (Keep.refl _ W).drew.trans hg2.keep (fun i hi => .inl hi)
    have bx2 : Boxed w2 (w.heap.size + 1) 28 (.slice va S.size vc) := k2.blk b1 (hne _ _ b1)
    have by2 : Boxed w2 w.heap.size 28 (.slice (some ⟨pb, po, none⟩) 4096 c) := k2.blk b2 (hne _ _ b2)
    have c1 : W.drew.cell? ⟨w.heap.size + 1, 0, none⟩ = some (.slice va S.size vc) := b1.cell
    have c2' := bx2.cell
    have f2 := bx2.frozen
    have D1 := Lib.hid (show W.drew.cell? ⟨w.heap.size, 0, none⟩ = some (.slice (some ⟨pb, po, none⟩) 4096 c) from b2.cell)
    have D2 := Lib.hid (show w2.cell? ⟨w.heap.size, 0, none⟩ = some (.slice (some ⟨pb, po, none⟩) 4096 c) from by2.cell)
    have D3 := Lib.hid (show (w2.setCell ⟨w.heap.size + 1, 0, none⟩ (.slice a2 n2 c2)).cell? ⟨w.heap.size, 0, none⟩ = some (.slice (some ⟨pb, po, none⟩) 4096 c) from (by2.other (by omega) _).cell)
    have HBX := Lib.hid (And.intro bx2 by2)
    have HAP := Lib.hid hap
    have HO2 := Lib.hid ho2
    have HK2 := Lib.hid k2
    have HRW := Lib.hid hrow
    have HB := Lib.hid hB
    have HSN := Lib.hid hsn
    have HN2 := Lib.hid hn2
    have HOW := Lib.hid ho
    clear b1 b2 hr hlt hsl hsn ho hm hS hu husz hbu hap ho2 hg2 hn2 hrow hne k2 bx2 by2 hB
    gi_wp2
    refine wpIn_strict (round_held_drew (S := (fun w' => w'.cell? ⟨w.heap.size, 0, none⟩ = some (.slice (some ⟨pb, po, none⟩) 4096 c))) (by kernel_rfl) (by kernel_rfl) strict_out ?_ (fun hHeld0 => ?_))
    · (try dsimp only)
      first | with_reducible exact D1.out | with_reducible exact D2.out | with_reducible exact D3.out
    refine takeN (v := ?_) 1 rfl (by kernel_rfl) (by kernel_rfl) (by kernel_rfl) (fun _ _ _ h => h) (by rfl) ?_ hHeld0 ?_
    rotate_left
    · intro w hSw; (try dsimp only at hSw); go_simp; with_reducible rfl
    try simp only [Act.put, List.setIfInBounds_toArray, List.set_cons_zero, List.set_cons_succ]
    refine takeN (v := ?_) 2 rfl (by kernel_rfl) (by kernel_rfl) (by kernel_rfl) (fun _ _ _ h => h) (by rfl) ?_ hHeld0 ?_
    rotate_left
    · intro w hSw; (try dsimp only at hSw); go_simp; with_reducible rfl
    try simp only [Act.put, List.setIfInBounds_toArray, List.set_cons_zero, List.set_cons_succ]
    refine takeN (v := ?_) 3 rfl (by kernel_rfl) (by kernel_rfl) (by kernel_rfl) (fun _ _ _ h => h) (by rfl) ?_ hHeld0 ?_
    rotate_left
    · intro w hSw; (try dsimp only at hSw); go_simp; with_reducible rfl
    try simp only [Act.put, List.setIfInBounds_toArray, List.set_cons_zero, List.set_cons_succ]
    refine takeN (v := ?_) 4 rfl (by kernel_rfl) (by kernel_rfl) (by kernel_rfl) (fun _ _ _ h => h) (by rfl) ?_ hHeld0 ?_
    rotate_left
    · intro w hSw; (try dsimp only at hSw); go_simp; with_reducible rfl
    try simp only [Act.put, List.setIfInBounds_toArray, List.set_cons_zero, List.set_cons_succ]
    refine takeN (v := ?_) 5 rfl (by kernel_rfl) (by kernel_rfl) (by kernel_rfl) (fun _ _ _ h => h) (by rfl) ?_ hHeld0 ?_
    rotate_left
    · intro w hSw; (try dsimp only at hSw); go_simp; with_reducible rfl
    try simp only [Act.put, List.setIfInBounds_toArray, List.set_cons_zero, List.set_cons_succ]
    refine takeN (v := ?_) 6 rfl (by kernel_rfl) (by kernel_rfl) (by kernel_rfl) (fun _ _ _ h => h) (by rfl) ?_ hHeld0 ?_
    rotate_left
    · intro w hSw; (try dsimp only at hSw); go_simp; with_reducible rfl
    try simp only [Act.put, List.setIfInBounds_toArray, List.set_cons_zero, List.set_cons_succ]
    refine wpAnyH_ready (rs := [0]) (by kernel_rfl) (by simp) ?_
    refine readyN rfl (fun K hK => ?_) ?_
    · -- operation 0
      go_simp
      refine hK.out _ _ ?_ (fun hHeld1 => ?_)
      · (try dsimp only)
        first | with_reducible exact D1.out | with_reducible exact D2.out | with_reducible exact D3.out
      clear hK K hHeld0
      try simp only [Act.put, List.setIfInBounds_toArray, List.set_cons_zero, List.set_cons_succ]
      refine wpAnyH_ready (rs := [7]) (by kernel_rfl) (by simp) ?_
      refine readyN rfl (fun K hK => ?_) ?_
      · -- operation 7
        (refine wp_append_run _ _ 28 (v := .slice va S.size vc) (y := .slice (some ⟨pb, po + (512 * k + 8), none⟩) 504 (c - (512 * k + 8))) rfl rfl rfl (by with_reducible exact HAP.out) ?_)
        refine hK.out _ _ ?_ (fun hHeld2 => ?_)
        · (try dsimp only)
          first | with_reducible exact D1.out | with_reducible exact D2.out | with_reducible exact D3.out
        clear hK K hHeld1
        try simp only [Act.put, List.setIfInBounds_toArray, List.set_cons_zero, List.set_cons_succ]
        refine wpAnyH_ready (rs := [8]) (by kernel_rfl) (by simp) ?_
        refine readyN rfl (fun K hK => ?_) ?_
        · -- operation 8
          go_simp
          refine hK.out _ _ ?_ (fun hHeld3 => ?_)
          · (try dsimp only)
            first | with_reducible exact D1.out | with_reducible exact D2.out | with_reducible exact D3.out
          clear hK K hHeld2
          try simp only [Act.put, List.setIfInBounds_toArray, List.set_cons_zero, List.set_cons_succ]
          refine wpAnyH_done (by kernel_rfl) ?_ _
          dsimp only
          gi_wp2
          have hcl : ∀ k o, (Value.slice va S.size vc).ownBlock = some k → W.heap[k]? = some o → o.isCells = true := fun k o hk ho => by
            obtain ⟨c', z', h'⟩ := HRW.out k hk
            rw [h'] at ho; cases ho; rfl
          have hne2 : ∀ k, (Value.slice a2 n2 c2).ownBlock = some k → ¬ k = w.heap.size + 1 := fun k hk e => by
            subst e
            have ho2 := HO2.out
            obtain ⟨c', z', h'⟩ := row_blk ho2 _ hk
            rw [show w2.heap[w.heap.size + 1]? = _ from HBX.out.1] at h'; cases h'
          have hks : Keep (fun i => i = w.heap.size + 1) w2 (w2.setCell ⟨w.heap.size + 1, 0, none⟩ (.slice a2 n2 c2)) := Keep.setCell (F := fun i => i = w.heap.size + 1) (Keep.refl _ _) (p := ⟨w.heap.size + 1, 0, none⟩) (.inl rfl) _
          have hlow : Below w.heap.size W w2 := HK2.out.below hwW (fun i hi => (HOW.out.base_le i hi).1)
          refine ⟨((others_keep HK2.out hcl).trans (KeepsOthers.setCell _ _ _)).from _, trivial, ⟨⟨_, HBX.out.1.set _, ?_, trivial⟩, HBX.out.2.other (by omega) _⟩, (HB.out.trans hlow).setCell (p := ⟨w.heap.size + 1, 0, none⟩) (by simp) _⟩
          show World.ownsRow _ _ _ _ _ (stripF page (pre ++ [⟨k, hk⟩])).size (Lib.strCells (stripF page (pre ++ [⟨k, hk⟩])))
          rw [HSN.out]
          have ho2 : Own 5 w2 w.heap.size (.slice a2 n2 c2) (S ++ u) := HO2.out
          exact ho2.keep hks hne2
        exact AllReadyH.nil
      exact AllReadyH.nil
    exact AllReadyH.nil
  case done =>
    rintro D ys W hD rfl ⟨⟨⟨v, b1, hr, _⟩, b2⟩, hB⟩ hK
    have ho : Own 5 W w.heap.size v (strip page) := by rw [← stripF_all]; exact hr
    have hSz := strip_size page HPZ.out
    obtain ⟨S, hS⟩ : ∃ S, S = strip page := ⟨_, rfl⟩
    rw [← hS] at ho hSz
    have hn := lenF_le S
    have hcnt := hd_count S hSz
    have hbz := bodyF_size S hSz
    obtain ⟨va, vc, rfl⟩ := ho.size
    rw [hSz] at ho b1
    obtain ⟨gi, oi, rfl, hx2⟩ := ho.bs.at_ (i := 0) (by omega)
    clear hx2
    obtain ⟨hx0, hic, him, hx1⟩ := ho.bs.capm
    clear hx0 hx1
    have hst := hd_stamp page HPZ.out
    have hs1 := stampAt_lt page 0
    have hbp : BS W (.slice (some ⟨pb, po, none⟩) 4096 c) page := HS.out.keep (Keep.ofBelow hB (fun i => w.heap.size ≤ i)) (fun b o x hc => by have := World.block_lt_of_cell? w _ hc; simp only at this; omega)
    have hget : getF page at_ kind = if stampAt page 0 ≠ 0 ∧ frP at_ kind (stampAt page 0) (bodyF S) = page then some (bodyF S, (stampAt page 0 : Int)) else none := by
      unfold getF
      rw [← hS]
      by_cases hc : stampAt page 0 ≠ 0 ∧ frP at_ kind (stampAt page 0) (bodyF S) = page
      · rw [if_pos ⟨HPZ.out, hc⟩, if_pos hc]
      · rw [if_neg (fun h => hc h.2), if_neg hc]
    obtain ⟨st, hste⟩ : ∃ st : Nat, st = stampAt page 0 := ⟨_, rfl⟩
    rw [← hste] at hst hs1 hget
    obtain ⟨n, hne⟩ : ∃ n, n = lenF S := ⟨_, rfl⟩
    rw [← hne] at hn hcnt hbz
    have hbody : bodyF S = S.extract 17 (17 + n) := by unfold bodyF; rw [hne]
    have cW3 := b2.cell
    have cW9 := b1.cell
    have HBX := Lib.hid (And.intro b1 b2)
    have HO := Lib.hid ho
    have HBP := Lib.hid hbp
    have HG := Lib.hid hget
    have HBZ := Lib.hid hbz
    have HBD := Lib.hid hbody
    have HSZ := Lib.hid hSz
    have HK := Lib.hid hK
    have HB := Lib.hid hB
    have HCN := Lib.hid hcnt
    have HST := Lib.hid hst
    clear hste hst
    have BX := Lib.hid fun (X : World) (hb : Below W.heap.size W X) => show X.cell? ⟨w.heap.size, 0, none⟩ = some (.slice (some ⟨pb, po, none⟩) 4096 c) ∧ X.cell? ⟨w.heap.size + 1, 0, none⟩ = some (.slice (some ⟨gi, oi, none⟩) 4032 vc) from ⟨(Keep.ofBelow hb (fun _ => False)).cell b2.cell (fun h => h), (Keep.ofBelow hb (fun _ => False)).cell b1.cell (fun h => h)⟩
    have HN1 := Lib.hid (new_r _ page W hbp (by rw [HPZ.out]; decide))
    have e12 : ∀ W : World, (Instr.slice 28 (.slice (some ⟨gi, oi, none⟩) 4032 vc) (some (.int .i64 17)) (some (.int .i64 (17 + (n : Int)))) none).run Try.prog W = .ok (.slice (some ⟨gi, oi + 17, none⟩) n (vc - 17)) W := fun W => by
      have := slice_part gi oi 4032 vc 17 (17 + n) 17 (17 + (n : Int)) rfl (by omega) (by omega) (by omega) (by omega) him W
      rwa [show 17 + n - 17 = n by omega] at this
    clear b1 b2 hr ho hSz hS hcnt hbz hbp hget hne hbody hK hB
    gi_wp2
    refine ⟨trivial, ?_⟩
    refine (callsIn_wide.2 HN1.out).mono ?_
    rintro e w1 ⟨q1, rfl, hq, hr, hb⟩
    have B1 := Lib.hid hb
    have hq1 := hq
    have HU1 := Lib.hid (uint_r q1 ⟨page, false⟩ w1 hr)
    clear hr hb hq
    rw [HST.out] at HU1
    gi_wp2
    refine ⟨trivial, ?_⟩
    refine (callsIn_wide.2 HU1.out).mono ?_
    rintro e w2 ⟨rfl, hr, hk⟩
    have B2 := Lib.hid (B1.out.trans (hk.below (B := W.heap.size) B1.out.size (fun i hi => by subst hi; exact hq1)))
    obtain ⟨d3, d9⟩ := BX.out _ B2.out
    have HN2 := Lib.hid (new_r (.slice (some ⟨gi, oi, none⟩) 4032 vc) S w2 (HO.out.bs.below B2.out) (by rw [HSZ.out]; decide))
    clear hr hk
    gi_wp2
    refine ⟨trivial, ?_⟩
    refine (callsIn_wide.2 HN2.out).mono ?_
    rintro e w3 ⟨q3, rfl, hq, hr, hb⟩
    have B3 := Lib.hid (B2.out.trans (hb.mono B2.out.size))
    have hq3 : W.heap.size ≤ q3 := Nat.le_trans B2.out.size hq
    have HU3 := Lib.hid (uint_r q3 ⟨S, false⟩ w3 hr)
    clear hr hb hq
    gi_wp2
    refine ⟨trivial, ?_⟩
    refine (callsIn_wide.2 HU3.out).mono ?_
    rintro e w4 ⟨rfl, hr, hk⟩
    have B4 := Lib.hid (B3.out.trans (hk.below (B := W.heap.size) B3.out.size (fun i hi => by subst hi; exact hq3)))
    have HU4 := Lib.hid (byte_r q3 (Rd.skip ⟨S, false⟩ 8) w4 hr (by rw [hd_skip S HSZ.out]) (by rw [hd_skip S HSZ.out]; show 1 ≤ (S.extract 8 4032).size; rw [ByteArray.size_extract, HSZ.out]; decide))
    clear hr hk
    gi_wp2
    refine ⟨trivial, ?_⟩
    refine (callsIn_wide.2 HU4.out).mono ?_
    rintro e w5 ⟨⟨x5, rfl⟩, hr, hk⟩
    have B5 := Lib.hid (B4.out.trans (hk.below (B := W.heap.size) B4.out.size (fun i hi => by subst hi; exact hq3)))
    have HU5 := Lib.hid (count_r q3 (Rd.skip (Rd.skip ⟨S, false⟩ 8) 1) 4011 (by decide) (by decide) w5 hr)
    clear hr hk
    rw [HCN.out] at HU5
    gi_wp2
    refine ⟨trivial, ?_⟩
    refine (callsIn_wide.2 HU5.out).mono ?_
    rintro e w6 ⟨rfl, hk⟩
    have B6 := Lib.hid (B5.out.trans (hk.below (B := W.heap.size) B5.out.size (fun i hi => by subst hi; exact hq3)))
    have g9 := (BX.out _ B6.out).2
    clear hk
    have hb6 : BS w6 (.slice (some ⟨gi, oi + 17, none⟩) n (vc - 17)) (bodyF S) := by
      have hz32 := HSZ.out
      have h1 : BS w6 (.slice (some ⟨gi, oi, none⟩) S.size vc) S := by rw [HSZ.out]; exact HO.out.bs.below B6.out
      have h2 := h1.cut (a' := some ⟨gi, oi + 17, none⟩) (c' := vc - 17) 17 (17 + n) (by omega) (by rw [HSZ.out]; omega) (fun _ => by rw [Option.map_some, Go.WideShapes.add_plain]) (by omega) (by omega) (fun h => by cases h)
      rw [show 17 + n - 17 = n by omega] at h2
      rw [HBD.out]; exact h2
    have HC6 := Lib.hid (clone_n ⟨gi, oi + 17, none⟩ (vc - 17) n (bodyF S) w6 HBZ.out hb6 (by omega))
    clear hb6
    gi_wp2
    refine ⟨trivial, ?_⟩
    refine (callsIn_wide.2 HC6.out).mono ?_
    rintro e w7 ⟨v7, rfl, ho, hb⟩
    obtain ⟨a7, c7, rfl, hx1, hx2⟩ := ho.bs.len2 HBZ.out
    have B7 := Lib.hid (B6.out.trans (hb.mono B6.out.size))
    have O7 := Lib.hid (ho.lower (base' := w.heap.size) (Nat.le_trans HB.out.size B6.out.size))
    clear ho hb hx1 hx2
    have hbz : (bodyF S).size = n := HBZ.out
    by_cases hz : st = 0
    · have HP := Lib.hid (fput_zero at_ kind (.slice a7 n c7) (bodyF S) a0 a1 w7 O7.out.bs)
      have hg := HG.out
      rw [if_neg (fun h => h.1 hz)] at hg
      have HGN := Lib.hid hg
      subst hz
      clear hg hbz HG
      gi_wp2
      refine ⟨trivial, ?_⟩
      refine (callsIn_wide.2 HP.out).mono ?_
      rintro e w8 ⟨rfl, hb⟩
      have B8 := Lib.hid (B7.out.trans (hb.mono B7.out.size))
      clear hb
      gi_wp2
      refine ⟨trivial, ?_⟩
      gi_wp2
      have hK8 : w8.heap[D]? = some (.deferred (some [])) := (Keep.ofBelow B8.out (fun _ => False)).blk HK.out (fun h => h)
      refine ⟨by simp, .inl ⟨_, _, rfl, run_takeDeferred hK8, ?_⟩⟩
      refine ⟨_, (by simp [results, Try.results10, go_sem]; rfl), ?_⟩
      refine ⟨by rw [HGN.out]; rfl, (HB.out.trans (B8.out.mono HB.out.size)).trans (belowK_b (w := w) (Nat.le_refl _) w8 D _ _ (by omega) hK8 rfl rfl)⟩
    · have HP := Lib.hid (fput_any at_ kind st (.slice a7 n c7) (bodyF S) a0 a1 k0 k1 (by omega) hs1 w7 O7.out.bs (by omega))
      have hz' : st ≠ 0 := hz
      have HNZ := Lib.hid hz'
      clear hbz hz hz'
      gi_wp2
      refine ⟨trivial, ?_⟩
      refine (callsIn_wide.2 HP.out).mono ?_
      rintro e w8 ⟨v8, rfl, ho, hb⟩
      have B8 := Lib.hid (B7.out.trans (hb.mono B7.out.size))
      have HE := Lib.hid (equal_w v8 (.slice (some ⟨pb, po, none⟩) 4096 c) (frP at_ kind st (bodyF S)) page w8 ho.bs (HBP.out.below B8.out))
      have d8 := (BX.out _ B8.out).1
      have O8 := Lib.hid (O7.out.below hb)
      obtain ⟨a8, c8, rfl⟩ := ho.size
      clear hb ho
      by_cases heq : frP at_ kind st (bodyF S) = page
      · rw [decide_eq_true heq] at HE
        have hg := HG.out
        rw [if_pos ⟨HNZ.out, heq⟩] at hg
        have HGN := Lib.hid hg
        clear hg HG heq
        gi_wp2
        refine ⟨trivial, ?_⟩
        refine (callsIn_wide.2 HE.out).mono ?_
        rintro e w9 ⟨rfl, rfl⟩
        gi_wp2
        have hK8 : w8.heap[D]? = some (.deferred (some [])) := (Keep.ofBelow B8.out (fun _ => False)).blk HK.out (fun h => h)
        refine ⟨by simp, .inl ⟨_, _, rfl, run_takeDeferred hK8, ?_⟩⟩
        refine ⟨_, (by simp [results, Try.results10, go_sem]; rfl), ?_⟩
        refine ⟨?_, (HB.out.trans (B8.out.mono HB.out.size)).trans (belowK_b (w := w) (Nat.le_refl _) w8 D _ _ (by omega) hK8 rfl rfl)⟩
        rw [HGN.out]
        refine ⟨_, rfl, ?_⟩
        have o8 : World.ownsRow w8 w.heap.size 5 1 (.slice a7 n c7) (bodyF S).size (Lib.strCells (bodyF S)) := O8.out
        exact ownsRow_putObj o8 _ hK8 rfl
      · rw [decide_eq_false heq] at HE
        have hg := HG.out
        rw [if_neg (fun h => heq h.2)] at hg
        have HGN := Lib.hid hg
        clear hg HG heq
        gi_wp2
        refine ⟨trivial, ?_⟩
        refine (callsIn_wide.2 HE.out).mono ?_
        rintro e w9 ⟨rfl, rfl⟩
        gi_wp2
        have hK8 : w8.heap[D]? = some (.deferred (some [])) := (Keep.ofBelow B8.out (fun _ => False)).blk HK.out (fun h => h)
        refine ⟨by simp, .inl ⟨_, _, rfl, run_takeDeferred hK8, ?_⟩⟩
        refine ⟨_, (by simp [results, Try.results10, go_sem]; rfl), ?_⟩
        refine ⟨by rw [HGN.out]; rfl, (HB.out.trans (B8.out.mono HB.out.size)).trans (belowK_b (w := w) (Nat.le_refl _) w8 D _ _ (by omega) hK8 rfl rfl)⟩
  case stop =>
    rintro D c pre W _ _ h _
    exact h.elim
end Go.Proofs.Ytlmngghkhnnaeaa
namespace Go.Proofs.Ytlmngghkhnnaeaa
open Go.RowKit Go.Shelf
set_option maxRecDepth 100000
set_option maxHeartbeats 1000000
set_option linter.unusedVariables false
set_option linter.unusedSimpArgs false
attribute [local go_sem] Oper.semAt_some
/-- the greatest stamp of the sectors that were met -/
def newL (page : ByteArray) (pre : List (Fin 8)) : Nat := pre.foldl (fun n x => max n (stampAt page x.val)) 0
theorem newL_snoc (page : ByteArray) (pre : List (Fin 8)) (x : Fin 8) : newL page (pre ++ [x]) = max (newL page pre) (stampAt page x.val) := by simp [newL, List.foldl_append]
theorem newL_all (page : ByteArray) : newL page SECS = newF page 8 := rfl
theorem newL_lt (page : ByteArray) : ∀ (l : List (Fin 8)) (n : Nat), (n : Int) ≤ 18446744073709551615 → ((l.foldl (fun n x => max n (stampAt page x.val)) n : Nat) : Int) ≤ 18446744073709551615
  | [], n, h => h
  | x :: l, n, h => by
    rw [List.foldl_cons]
    have := stampAt_lt page x.val
    exact newL_lt page l _ (by omega)
theorem boxed_u64 {W : World} {B : Nat} {T : TypeId} {v : Value} (h : Boxed W B T v) {x y : Int} (e : x = y) : Boxed (W.setCell ⟨B, 0, none⟩ (.int .u64 x)) B T (.int .u64 y) := by
  subst e; exact h.set _
theorem newest_any (v : Value) (page : ByteArray) (w : World) (hS : BS w v page) (hp : page.size = 4096) :
    Calls Try.prog 45 #[v] w fun e w' => e = .returned (.int .u64 (newF page 8)) ∧ Below w.heap.size w w' := by
  obtain ⟨a, c, rfl⟩ := hS.len
  obtain ⟨pb, po, rfl, hx0⟩ := hS.at_ (i := 0) (by omega)
  obtain ⟨hx1, hpc, hpm, hx2⟩ := hS.capm
  rw [hp] at hS hpc ⊢
  clear hx0 hx1 hx2
  have HS := Lib.hid hS
  have HPZ := Lib.hid hp
  have HSC := Lib.hid sectors_any
  clear hS hp
  refine (callsIn_wide (n := 9)).1 ?_
  refine callsIn_of_wp_marks Try.func45 rfl trivial ?_ rfl
  simp only [Try.ntmps45, List.size_toArray, List.length_cons, List.length_nil, Nat.reduceAdd, Nat.reduceSub, Array.replicate_succ, Array.replicate_zero, List.push_toArray, List.append_toArray, List.nil_append, List.cons_append]
  gi_wp2_with (refine ⟨trivial, ?_⟩; gi_at_call 36; refine (callsIn_wide.2 (HSC.out _)).mono ?_; rintro e w' ⟨rfl, rfl⟩)
  have p1 : Boxed ((w.alloc (.cells #[.slice (some ⟨pb, po, none⟩) 4096 c] 28)).alloc (.cells #[.int .u64 0] 27)) w.heap.size 28 (.slice (some ⟨pb, po, none⟩) 4096 c) := (Boxed.new w _ _).alloc _
  have p2 : Boxed ((w.alloc (.cells #[.slice (some ⟨pb, po, none⟩) 4096 c] 28)).alloc (.cells #[.int .u64 0] 27)) (w.heap.size + 1) 27 (.int .u64 ((newL page [] : Nat) : Int)) := blk_newAt (by simp) _
  have p3 : Below w.heap.size w ((w.alloc (.cells #[.slice (some ⟨pb, po, none⟩) 4096 c] 28)).alloc (.cells #[.int .u64 0] 27)) := ((Below.refl _ w).alloc (Nat.le_refl _) _).alloc (by simp) _
  obtain ⟨W0, hW0⟩ : ∃ W0, (w.alloc (.cells #[.slice (some ⟨pb, po, none⟩) 4096 c] 28)).alloc (.cells #[.int .u64 0] 27) = W0 := ⟨_, rfl⟩
  have hsz : W0.heap.size = w.heap.size + 2 := by rw [← hW0]; simp
  rw [hW0] at p1 p2 p3 ⊢
  clear hW0
  refine wpIn_rangeFunc_ownH rfl (by decide) (gf := 64) (lb := #[]) rfl trivial (enters_of Try.func64 (by kernel_rfl) rfl)
    (sec1_stops (9 - 1) (by decide) W0) (fun _ _ => trivial) (fun _ _ _ _ _ _ _ _ => trivial) (Below.refl _ _) (fun _ => rfl)
    (fun pre W => (Boxed W (w.heap.size + 1) 27 (.int .u64 ((newL page pre : Nat) : Int)) ∧ Boxed W w.heap.size 28 (.slice (some ⟨pb, po, none⟩) 4096 c)) ∧ Below w.heap.size w W)
    (fun _ _ _ => False)
    (OwnFrom.and (OwnFrom.and (blkf_own _ (fun pre => #[.int .u64 ((newL page pre : Nat) : Int)]) _ _) (blkf_own _ _ _ _)) (ownFrom_below (Nat.le_refl _) (by omega)))
    (fun _ _ _ _ _ hs _ _ => hs)
    ⟨⟨p2, p1⟩, p3⟩
    (fun x a' _ => a' = { tmps := #[Value.slice (some { block := pb, off := po }) 4096 c, Value.pointer (some { block := w.heap.size, off := 0 }), Value.int IntKind.u64 0, Value.pointer (some { block := w.heap.size + 1, off := 0 }), undef, Value.int IntKind.i64 ((x.val : Int) * 512), Value.slice (some { block := pb, off := po }) 4096 c, Value.int IntKind.i64 4096, Value.bool false, undef, Value.func (Fn.func 64) #[] #[], Value.int IntKind.i64 ((x.val : Int) * 504), Value.int IntKind.i64 ((x.val : Int) * 512), undef, undef, undef, undef, undef, undef, undef, undef, undef, undef], defers := [] })
    (fun _ _ _ _ _ _ hs _ _ => hs)
    ?assign ?body ?done ?stop
  case assign =>
    rintro l pre x W K hI hK
    unfold secV
    gi_wp2
    exact hK _ _ (KeepsFrom.refl _ _) trivial hI rfl
  case body =>
    rintro l pre x a' W hl0 ⟨r, hr0⟩ ⟨⟨b1, b2⟩, hB⟩ rfl hlt
    obtain ⟨k, hk⟩ := x
    have hsn := newL_snoc page pre ⟨k, hk⟩
    have hnl : ((newL page pre : Nat) : Int) ≤ 18446744073709551615 := newL_lt page pre 0 (by omega)
    have hsl := stampAt_lt page k
    dsimp only at hsn ⊢
    obtain ⟨n, hn⟩ : ∃ n, n = newL page pre := ⟨_, rfl⟩
    rw [← hn] at b1 hsn hnl
    obtain ⟨u, hu⟩ : ∃ u, u = page.extract (512 * k) (512 * k + 8) := ⟨_, rfl⟩
    have husz : u.size = 8 := by rw [hu, ByteArray.size_extract, HPZ.out]; omega
    have hval : Rd.val ⟨u, false⟩ 8 = (stampAt page k : Int) := by
      rw [rd_val u 8 (by omega), show u.extract 0 8 = u by rw [← husz]; exact ByteArray.extract_zero_size, hu]; rfl
    obtain ⟨s, hs⟩ : ∃ s, s = stampAt page k := ⟨_, rfl⟩
    rw [← hs] at hsn hsl hval
    have e6 : ∀ W : World, (Instr.slice 28 (.slice (some ⟨pb, po, none⟩) 4096 c) (some (.int .i64 ((k : Int) * 512))) (some (.int .i64 ((k : Int) * 512 + 8))) none).run Try.prog W = .ok (.slice (some ⟨pb, po + 512 * k, none⟩) 8 (c - 512 * k)) W := fun W => by
      have := slice_part pb po 4096 c (512 * k) (512 * k + 8) ((k : Int) * 512) ((k : Int) * 512 + 8) (by omega) (by omega) (by omega) (by omega) (by omega) hpm W
      rwa [show 512 * k + 8 - 512 * k = 8 by omega] at this
    have hwr1 : IntKind.i64.wrap ((k : Int) * 512 + 8) = (k : Int) * 512 + 8 := by rw [IntKind.wrap_i64]; omega
    have hbu : BS W.drew (.slice (some ⟨pb, po + 512 * k, none⟩) 8 (c - 512 * k)) u := by
      have h1 : BS W (.slice (some ⟨pb, po, none⟩) page.size c) page := by rw [HPZ.out]; exact (HS.out.keep (Keep.ofBelow hB (fun i => w.heap.size ≤ i)) (fun b o x hc => by have := World.block_lt_of_cell? w _ hc; simp only at this; omega))
      have h2 := h1.cut (a' := some ⟨pb, po + 512 * k, none⟩) (c' := c - 512 * k) (512 * k) (512 * k + 8) (by omega) (by rw [HPZ.out]; omega) (fun _ => by rw [Option.map_some, Go.WideShapes.add_plain]) (by omega) (by omega) (fun h => by cases h)
      rw [show 512 * k + 8 - 512 * k = 8 by omega] at h2
      rw [hu]; exact h2
    have hwW := hB.size
    have c1 : W.drew.cell? ⟨w.heap.size + 1, 0, none⟩ = some (.int .u64 (n : Int)) := b1.cell
    have D1 := Lib.hid (show W.drew.cell? ⟨w.heap.size, 0, none⟩ = some (.slice (some ⟨pb, po, none⟩) 4096 c) from b2.cell)
    have HN1 := Lib.hid (new_r _ u W.drew hbu (by rw [husz]; decide))
    have HVV := Lib.hid hval
    have HBX := Lib.hid (And.intro b1 b2)
    have HB := Lib.hid hB
    have HSN := Lib.hid hsn
    clear b1 b2 hlt hsn hn hu husz hbu hval hs hB
    gi_wp2
    refine wpIn_strict (round_held_drew (S := (fun w' => w'.cell? ⟨w.heap.size, 0, none⟩ = some (.slice (some ⟨pb, po, none⟩) 4096 c))) (by kernel_rfl) (by kernel_rfl) strict_out ?_ (fun hHeld0 => ?_))
    · (try dsimp only)
      first | with_reducible exact D1.out | with_reducible exact D2.out | with_reducible exact D3.out | with_reducible exact D4.out _
    refine takeN (v := ?_) 1 rfl (by kernel_rfl) (by kernel_rfl) (by kernel_rfl) (fun _ _ _ h => h) (by rfl) ?_ hHeld0 ?_
    rotate_left
    · intro w hSw; (try dsimp only at hSw); go_simp; with_reducible rfl
    try simp only [Act.put, List.setIfInBounds_toArray, List.set_cons_zero, List.set_cons_succ]
    refine takeN (v := ?_) 2 rfl (by kernel_rfl) (by kernel_rfl) (by kernel_rfl) (fun _ _ _ h => h) (by rfl) ?_ hHeld0 ?_
    rotate_left
    · intro w hSw; (try dsimp only at hSw); go_simp; with_reducible rfl
    try simp only [Act.put, List.setIfInBounds_toArray, List.set_cons_zero, List.set_cons_succ]
    refine takeN (v := ?_) 3 rfl (by kernel_rfl) (by kernel_rfl) (by kernel_rfl) (fun _ _ _ h => h) (by rfl) ?_ hHeld0 ?_
    rotate_left
    · intro w hSw; (try dsimp only at hSw); go_simp; with_reducible rfl
    try simp only [Act.put, List.setIfInBounds_toArray, List.set_cons_zero, List.set_cons_succ]
    refine takeN (v := ?_) 4 rfl (by kernel_rfl) (by kernel_rfl) (by kernel_rfl) (fun _ _ _ h => h) (by rfl) ?_ hHeld0 ?_
    rotate_left
    · intro w hSw; (try dsimp only at hSw); go_simp; with_reducible rfl
    try simp only [Act.put, List.setIfInBounds_toArray, List.set_cons_zero, List.set_cons_succ]
    refine takeN (v := ?_) 5 rfl (by kernel_rfl) (by kernel_rfl) (by kernel_rfl) (fun _ _ _ h => h) (by rfl) ?_ hHeld0 ?_
    rotate_left
    · intro w hSw; (try dsimp only at hSw); go_simp; with_reducible rfl
    try simp only [Act.put, List.setIfInBounds_toArray, List.set_cons_zero, List.set_cons_succ]
    refine wpAnyH_ready (rs := [0, 6]) (by kernel_rfl) (by simp) ?_
    refine readyN rfl (fun K hK => ?_) ?_
    · -- operation 0
      go_simp
      refine hK.out _ _ ?_ (fun hHeld1 => ?_)
      · (try dsimp only)
        first | with_reducible exact D1.out | with_reducible exact D2.out | with_reducible exact D3.out | with_reducible exact D4.out _
      clear hK K hHeld0
      try simp only [Act.put, List.setIfInBounds_toArray, List.set_cons_zero, List.set_cons_succ]
      refine wpAnyH_ready (rs := [6]) (by kernel_rfl) (by simp) ?_
      refine readyN rfl (fun K hK => ?_) ?_
      · -- operation 6
        go_simp
        first
          | (go_at_call 37; refine HN1.out.mono ?_; rintro e w1 ⟨q1, rfl, hq, hr, hb⟩
             have B1 := Lib.hid hb
             have hq1 : W.heap.size ≤ q1 := hq
             have HU1 := Lib.hid (uint_r q1 ⟨u, false⟩ w1 hr)
             rw [HVV.out] at HU1
             have x1 : Boxed w1 (w.heap.size + 1) 27 (.int .u64 (n : Int)) := (Keep.ofBelow hb (fun _ => False)).blk (show W.drew.heap[w.heap.size + 1]? = _ from HBX.out.1) (fun h => h)
             have y1 : Boxed w1 w.heap.size 28 (.slice (some ⟨pb, po, none⟩) 4096 c) := (Keep.ofBelow hb (fun _ => False)).blk (show W.drew.heap[w.heap.size]? = _ from HBX.out.2) (fun h => h)
             have n1 := x1.cell
             have D2 := Lib.hid y1.cell
             have HX1 := Lib.hid (And.intro x1 y1)
             clear hr hb hq x1 y1)
          | (go_at_call 38; refine HU1.out.mono ?_; rintro e w2 ⟨rfl, hr, hk⟩
             have B2 := Lib.hid ((Below.refl W.heap.size W).drew.trans (B1.out.trans (hk.below (B := W.heap.size) B1.out.size (fun i hi => by subst hi; exact hq1))))
             have x2 : Boxed w2 (w.heap.size + 1) 27 (.int .u64 (n : Int)) := hk.blk HX1.out.1 (fun e => by have := blk_lt HBX.out.1; omega)
             have y2 : Boxed w2 w.heap.size 28 (.slice (some ⟨pb, po, none⟩) 4096 c) := hk.blk HX1.out.2 (fun e => by have := blk_lt HBX.out.2; omega)
             have n2 := x2.cell
             have f2 := x2.frozen
             have D3 := Lib.hid y2.cell
             have D4 := Lib.hid fun u => (y2.other (B' := w.heap.size + 1) (by omega) u).cell
             have HX2 := Lib.hid (And.intro x2 y2)
             clear hr hk x2 y2)
        go_wp2_with fail
        refine hK.out _ _ ?_ (fun hHeld2 => ?_)
        · (try dsimp only)
          first | with_reducible exact D1.out | with_reducible exact D2.out | with_reducible exact D3.out | with_reducible exact D4.out _
        clear hK K hHeld1
        try simp only [Act.put, List.setIfInBounds_toArray, List.set_cons_zero, List.set_cons_succ]
        refine wpAnyH_ready (rs := [7]) (by kernel_rfl) (by simp) ?_
        refine readyN rfl (fun K hK => ?_) ?_
        · -- operation 7
          go_simp
          first
            | (go_at_call 37; refine HN1.out.mono ?_; rintro e w1 ⟨q1, rfl, hq, hr, hb⟩
               have B1 := Lib.hid hb
               have hq1 : W.heap.size ≤ q1 := hq
               have HU1 := Lib.hid (uint_r q1 ⟨u, false⟩ w1 hr)
               rw [HVV.out] at HU1
               have x1 : Boxed w1 (w.heap.size + 1) 27 (.int .u64 (n : Int)) := (Keep.ofBelow hb (fun _ => False)).blk (show W.drew.heap[w.heap.size + 1]? = _ from HBX.out.1) (fun h => h)
               have y1 : Boxed w1 w.heap.size 28 (.slice (some ⟨pb, po, none⟩) 4096 c) := (Keep.ofBelow hb (fun _ => False)).blk (show W.drew.heap[w.heap.size]? = _ from HBX.out.2) (fun h => h)
               have n1 := x1.cell
               have D2 := Lib.hid y1.cell
               have HX1 := Lib.hid (And.intro x1 y1)
               clear hr hb hq x1 y1)
            | (go_at_call 38; refine HU1.out.mono ?_; rintro e w2 ⟨rfl, hr, hk⟩
               have B2 := Lib.hid ((Below.refl W.heap.size W).drew.trans (B1.out.trans (hk.below (B := W.heap.size) B1.out.size (fun i hi => by subst hi; exact hq1))))
               have x2 : Boxed w2 (w.heap.size + 1) 27 (.int .u64 (n : Int)) := hk.blk HX1.out.1 (fun e => by have := blk_lt HBX.out.1; omega)
               have y2 : Boxed w2 w.heap.size 28 (.slice (some ⟨pb, po, none⟩) 4096 c) := hk.blk HX1.out.2 (fun e => by have := blk_lt HBX.out.2; omega)
               have n2 := x2.cell
               have f2 := x2.frozen
               have D3 := Lib.hid y2.cell
               have D4 := Lib.hid fun u => (y2.other (B' := w.heap.size + 1) (by omega) u).cell
               have HX2 := Lib.hid (And.intro x2 y2)
               clear hr hk x2 y2)
          go_wp2_with fail
          refine hK.out _ _ ?_ (fun hHeld3 => ?_)
          · (try dsimp only)
            first | with_reducible exact D1.out | with_reducible exact D2.out | with_reducible exact D3.out | with_reducible exact D4.out _
          clear hK K hHeld2
          try simp only [Act.put, List.setIfInBounds_toArray, List.set_cons_zero, List.set_cons_succ]
          refine wpAnyH_ready (rs := [8]) (by kernel_rfl) (by simp) ?_
          refine readyN rfl (fun K hK => ?_) ?_
          · -- operation 8
            go_simp
            refine hK.out _ _ ?_ (fun hHeld4 => ?_)
            · (try dsimp only)
              first | with_reducible exact D1.out | with_reducible exact D2.out | with_reducible exact D3.out | with_reducible exact D4.out _
            clear hK K hHeld3
            try simp only [Act.put, List.setIfInBounds_toArray, List.set_cons_zero, List.set_cons_succ]
            refine wpAnyH_ready (rs := [9]) (by kernel_rfl) (by simp) ?_
            refine readyN rfl (fun K hK => ?_) ?_
            · -- operation 9
              go_simp
              refine hK.out _ _ ?_ (fun hHeld5 => ?_)
              · (try dsimp only)
                first | with_reducible exact D1.out | with_reducible exact D2.out | with_reducible exact D3.out | with_reducible exact D4.out _
              clear hK K hHeld4
              try simp only [Act.put, List.setIfInBounds_toArray, List.set_cons_zero, List.set_cons_succ]
              refine wpAnyH_done (by kernel_rfl) ?_ _
              dsimp only
              gi_wp2
              all_goals
                refine ⟨((KeepsOthers.of_grownBy (row := none) ⟨B2.out.os, B2.out.tape, B2.out.output, B2.out.size, fun k hk _ => B2.out.block k hk⟩ (fun _ _ h _ => by cases h)).trans (KeepsOthers.setCell _ _ _)).from _, trivial, ⟨?_, HX2.out.2.other (by omega) _⟩, (HB.out.trans (B2.out.mono hwW)).setCell (p := ⟨w.heap.size + 1, 0, none⟩) (by simp) _⟩
                rw [HSN.out]
                exact boxed_u64 HX2.out.1 (by omega)
            exact AllReadyH.nil
          exact AllReadyH.nil
        exact AllReadyH.nil
      exact AllReadyH.nil
    refine readyN rfl (fun K hK => ?_) ?_
    · -- operation 6
      go_simp
      first
        | (go_at_call 37; refine HN1.out.mono ?_; rintro e w1 ⟨q1, rfl, hq, hr, hb⟩
           have B1 := Lib.hid hb
           have hq1 : W.heap.size ≤ q1 := hq
           have HU1 := Lib.hid (uint_r q1 ⟨u, false⟩ w1 hr)
           rw [HVV.out] at HU1
           have x1 : Boxed w1 (w.heap.size + 1) 27 (.int .u64 (n : Int)) := (Keep.ofBelow hb (fun _ => False)).blk (show W.drew.heap[w.heap.size + 1]? = _ from HBX.out.1) (fun h => h)
           have y1 : Boxed w1 w.heap.size 28 (.slice (some ⟨pb, po, none⟩) 4096 c) := (Keep.ofBelow hb (fun _ => False)).blk (show W.drew.heap[w.heap.size]? = _ from HBX.out.2) (fun h => h)
           have n1 := x1.cell
           have D2 := Lib.hid y1.cell
           have HX1 := Lib.hid (And.intro x1 y1)
           clear hr hb hq x1 y1)
        | (go_at_call 38; refine HU1.out.mono ?_; rintro e w2 ⟨rfl, hr, hk⟩
           have B2 := Lib.hid ((Below.refl W.heap.size W).drew.trans (B1.out.trans (hk.below (B := W.heap.size) B1.out.size (fun i hi => by subst hi; exact hq1))))
           have x2 : Boxed w2 (w.heap.size + 1) 27 (.int .u64 (n : Int)) := hk.blk HX1.out.1 (fun e => by have := blk_lt HBX.out.1; omega)
           have y2 : Boxed w2 w.heap.size 28 (.slice (some ⟨pb, po, none⟩) 4096 c) := hk.blk HX1.out.2 (fun e => by have := blk_lt HBX.out.2; omega)
           have n2 := x2.cell
           have f2 := x2.frozen
           have D3 := Lib.hid y2.cell
           have D4 := Lib.hid fun u => (y2.other (B' := w.heap.size + 1) (by omega) u).cell
           have HX2 := Lib.hid (And.intro x2 y2)
           clear hr hk x2 y2)
      go_wp2_with fail
      refine hK.out _ _ ?_ (fun hHeld1 => ?_)
      · (try dsimp only)
        first | with_reducible exact D1.out | with_reducible exact D2.out | with_reducible exact D3.out | with_reducible exact D4.out _
      clear hK K hHeld0
      try simp only [Act.put, List.setIfInBounds_toArray, List.set_cons_zero, List.set_cons_succ]
      refine wpAnyH_ready (rs := [0, 7]) (by kernel_rfl) (by simp) ?_
      refine readyN rfl (fun K hK => ?_) ?_
      · -- operation 0
        go_simp
        refine hK.out _ _ ?_ (fun hHeld2 => ?_)
        · (try dsimp only)
          first | with_reducible exact D1.out | with_reducible exact D2.out | with_reducible exact D3.out | with_reducible exact D4.out _
        clear hK K hHeld1
        try simp only [Act.put, List.setIfInBounds_toArray, List.set_cons_zero, List.set_cons_succ]
        refine wpAnyH_ready (rs := [7]) (by kernel_rfl) (by simp) ?_
        refine readyN rfl (fun K hK => ?_) ?_
        · -- operation 7
          go_simp
          first
            | (go_at_call 37; refine HN1.out.mono ?_; rintro e w1 ⟨q1, rfl, hq, hr, hb⟩
               have B1 := Lib.hid hb
               have hq1 : W.heap.size ≤ q1 := hq
               have HU1 := Lib.hid (uint_r q1 ⟨u, false⟩ w1 hr)
               rw [HVV.out] at HU1
               have x1 : Boxed w1 (w.heap.size + 1) 27 (.int .u64 (n : Int)) := (Keep.ofBelow hb (fun _ => False)).blk (show W.drew.heap[w.heap.size + 1]? = _ from HBX.out.1) (fun h => h)
               have y1 : Boxed w1 w.heap.size 28 (.slice (some ⟨pb, po, none⟩) 4096 c) := (Keep.ofBelow hb (fun _ => False)).blk (show W.drew.heap[w.heap.size]? = _ from HBX.out.2) (fun h => h)
               have n1 := x1.cell
               have D2 := Lib.hid y1.cell
               have HX1 := Lib.hid (And.intro x1 y1)
               clear hr hb hq x1 y1)
            | (go_at_call 38; refine HU1.out.mono ?_; rintro e w2 ⟨rfl, hr, hk⟩
               have B2 := Lib.hid ((Below.refl W.heap.size W).drew.trans (B1.out.trans (hk.below (B := W.heap.size) B1.out.size (fun i hi => by subst hi; exact hq1))))
               have x2 : Boxed w2 (w.heap.size + 1) 27 (.int .u64 (n : Int)) := hk.blk HX1.out.1 (fun e => by have := blk_lt HBX.out.1; omega)
               have y2 : Boxed w2 w.heap.size 28 (.slice (some ⟨pb, po, none⟩) 4096 c) := hk.blk HX1.out.2 (fun e => by have := blk_lt HBX.out.2; omega)
               have n2 := x2.cell
               have f2 := x2.frozen
               have D3 := Lib.hid y2.cell
               have D4 := Lib.hid fun u => (y2.other (B' := w.heap.size + 1) (by omega) u).cell
               have HX2 := Lib.hid (And.intro x2 y2)
               clear hr hk x2 y2)
          go_wp2_with fail
          refine hK.out _ _ ?_ (fun hHeld3 => ?_)
          · (try dsimp only)
            first | with_reducible exact D1.out | with_reducible exact D2.out | with_reducible exact D3.out | with_reducible exact D4.out _
          clear hK K hHeld2
          try simp only [Act.put, List.setIfInBounds_toArray, List.set_cons_zero, List.set_cons_succ]
          refine wpAnyH_ready (rs := [8]) (by kernel_rfl) (by simp) ?_
          refine readyN rfl (fun K hK => ?_) ?_
          · -- operation 8
            go_simp
            refine hK.out _ _ ?_ (fun hHeld4 => ?_)
            · (try dsimp only)
              first | with_reducible exact D1.out | with_reducible exact D2.out | with_reducible exact D3.out | with_reducible exact D4.out _
            clear hK K hHeld3
            try simp only [Act.put, List.setIfInBounds_toArray, List.set_cons_zero, List.set_cons_succ]
            refine wpAnyH_ready (rs := [9]) (by kernel_rfl) (by simp) ?_
            refine readyN rfl (fun K hK => ?_) ?_
            · -- operation 9
              go_simp
              refine hK.out _ _ ?_ (fun hHeld5 => ?_)
              · (try dsimp only)
                first | with_reducible exact D1.out | with_reducible exact D2.out | with_reducible exact D3.out | with_reducible exact D4.out _
              clear hK K hHeld4
              try simp only [Act.put, List.setIfInBounds_toArray, List.set_cons_zero, List.set_cons_succ]
              refine wpAnyH_done (by kernel_rfl) ?_ _
              dsimp only
              gi_wp2
              all_goals
                refine ⟨((KeepsOthers.of_grownBy (row := none) ⟨B2.out.os, B2.out.tape, B2.out.output, B2.out.size, fun k hk _ => B2.out.block k hk⟩ (fun _ _ h _ => by cases h)).trans (KeepsOthers.setCell _ _ _)).from _, trivial, ⟨?_, HX2.out.2.other (by omega) _⟩, (HB.out.trans (B2.out.mono hwW)).setCell (p := ⟨w.heap.size + 1, 0, none⟩) (by simp) _⟩
                rw [HSN.out]
                exact boxed_u64 HX2.out.1 (by omega)
            exact AllReadyH.nil
          exact AllReadyH.nil
        exact AllReadyH.nil
      refine readyN rfl (fun K hK => ?_) ?_
      · -- operation 7
        go_simp
        first
          | (go_at_call 37; refine HN1.out.mono ?_; rintro e w1 ⟨q1, rfl, hq, hr, hb⟩
             have B1 := Lib.hid hb
             have hq1 : W.heap.size ≤ q1 := hq
             have HU1 := Lib.hid (uint_r q1 ⟨u, false⟩ w1 hr)
             rw [HVV.out] at HU1
             have x1 : Boxed w1 (w.heap.size + 1) 27 (.int .u64 (n : Int)) := (Keep.ofBelow hb (fun _ => False)).blk (show W.drew.heap[w.heap.size + 1]? = _ from HBX.out.1) (fun h => h)
             have y1 : Boxed w1 w.heap.size 28 (.slice (some ⟨pb, po, none⟩) 4096 c) := (Keep.ofBelow hb (fun _ => False)).blk (show W.drew.heap[w.heap.size]? = _ from HBX.out.2) (fun h => h)
             have n1 := x1.cell
             have D2 := Lib.hid y1.cell
             have HX1 := Lib.hid (And.intro x1 y1)
             clear hr hb hq x1 y1)
          | (go_at_call 38; refine HU1.out.mono ?_; rintro e w2 ⟨rfl, hr, hk⟩
             have B2 := Lib.hid ((Below.refl W.heap.size W).drew.trans (B1.out.trans (hk.below (B := W.heap.size) B1.out.size (fun i hi => by subst hi; exact hq1))))
             have x2 : Boxed w2 (w.heap.size + 1) 27 (.int .u64 (n : Int)) := hk.blk HX1.out.1 (fun e => by have := blk_lt HBX.out.1; omega)
             have y2 : Boxed w2 w.heap.size 28 (.slice (some ⟨pb, po, none⟩) 4096 c) := hk.blk HX1.out.2 (fun e => by have := blk_lt HBX.out.2; omega)
             have n2 := x2.cell
             have f2 := x2.frozen
             have D3 := Lib.hid y2.cell
             have D4 := Lib.hid fun u => (y2.other (B' := w.heap.size + 1) (by omega) u).cell
             have HX2 := Lib.hid (And.intro x2 y2)
             clear hr hk x2 y2)
        go_wp2_with fail
        refine hK.out _ _ ?_ (fun hHeld2 => ?_)
        · (try dsimp only)
          first | with_reducible exact D1.out | with_reducible exact D2.out | with_reducible exact D3.out | with_reducible exact D4.out _
        clear hK K hHeld1
        try simp only [Act.put, List.setIfInBounds_toArray, List.set_cons_zero, List.set_cons_succ]
        refine wpAnyH_ready (rs := [0]) (by kernel_rfl) (by simp) ?_
        refine readyN rfl (fun K hK => ?_) ?_
        · -- operation 0
          go_simp
          refine hK.out _ _ ?_ (fun hHeld3 => ?_)
          · (try dsimp only)
            first | with_reducible exact D1.out | with_reducible exact D2.out | with_reducible exact D3.out | with_reducible exact D4.out _
          clear hK K hHeld2
          try simp only [Act.put, List.setIfInBounds_toArray, List.set_cons_zero, List.set_cons_succ]
          refine wpAnyH_ready (rs := [8]) (by kernel_rfl) (by simp) ?_
          refine readyN rfl (fun K hK => ?_) ?_
          · -- operation 8
            go_simp
            refine hK.out _ _ ?_ (fun hHeld4 => ?_)
            · (try dsimp only)
              first | with_reducible exact D1.out | with_reducible exact D2.out | with_reducible exact D3.out | with_reducible exact D4.out _
            clear hK K hHeld3
            try simp only [Act.put, List.setIfInBounds_toArray, List.set_cons_zero, List.set_cons_succ]
            refine wpAnyH_ready (rs := [9]) (by kernel_rfl) (by simp) ?_
            refine readyN rfl (fun K hK => ?_) ?_
            · -- operation 9
              go_simp
              refine hK.out _ _ ?_ (fun hHeld5 => ?_)
              · (try dsimp only)
                first | with_reducible exact D1.out | with_reducible exact D2.out | with_reducible exact D3.out | with_reducible exact D4.out _
              clear hK K hHeld4
              try simp only [Act.put, List.setIfInBounds_toArray, List.set_cons_zero, List.set_cons_succ]
              refine wpAnyH_done (by kernel_rfl) ?_ _
              dsimp only
              gi_wp2
              all_goals
                refine ⟨((KeepsOthers.of_grownBy (row := none) ⟨B2.out.os, B2.out.tape, B2.out.output, B2.out.size, fun k hk _ => B2.out.block k hk⟩ (fun _ _ h _ => by cases h)).trans (KeepsOthers.setCell _ _ _)).from _, trivial, ⟨?_, HX2.out.2.other (by omega) _⟩, (HB.out.trans (B2.out.mono hwW)).setCell (p := ⟨w.heap.size + 1, 0, none⟩) (by simp) _⟩
                rw [HSN.out]
                exact boxed_u64 HX2.out.1 (by omega)
            exact AllReadyH.nil
          exact AllReadyH.nil
        exact AllReadyH.nil
      exact AllReadyH.nil
    exact AllReadyH.nil
  case done =>
    rintro D ys W hD rfl ⟨⟨b1, b2⟩, hB⟩ hK
    have k3 := b1.cell
    rw [newL_all] at k3
    have HK := Lib.hid hK
    have HB := Lib.hid hB
    clear b1 b2 hB hK
    gi_wp2
    refine ⟨by simp, .inl ⟨_, _, rfl, run_takeDeferred HK.out, ?_⟩⟩
    refine ⟨_, (by simp [results, Try.results45, go_sem]; rfl), ?_⟩
    exact ⟨rfl, HB.out.trans (belowK_b (w := w) (Nat.le_refl _) W D _ _ (by omega) HK.out rfl rfl)⟩
  case stop =>
    rintro D c pre W _ _ h _
    exact h.elim
end Go.Proofs.Ytlmngghkhnnaeaa
