/- The walk of store.headed. -/
import Derived.Test.YtlmngghkhnnaeaaQSlEq
import Derived.Test.YtlmngghkhnnaeaaQMReg
import Derived.Deep.DeepCutAuto
namespace Go.Proofs.Ytlmngghkhnnaeaa
open Go.RowKit
set_option maxRecDepth 100000
set_option maxHeartbeats 8000000
set_option linter.unusedVariables false
set_option linter.unusedSimpArgs false
/-- the state's cells -/
def HdAt (w W : World) (b bt bh bf n : Nat) : Prop :=
  W.heap[b]? = some (.cells #[.int .i64 0, .slice (some ⟨bt, 0, none⟩) n n, .slice (some ⟨bh, 0, none⟩) n n, .map (some bf), .bool false] 59 (0, 0)) ∧ BR W bt n (List.replicate n false) ∧ BR W bh n (List.replicate n false) ∧ IMapAt W bf [] ∧ w.heap.size ≤ b ∧ w.heap.size ≤ bt ∧ w.heap.size ≤ bh ∧ w.heap.size ≤ bf ∧ bt ≠ bh ∧ Below w.heap.size w W
theorem heap_alloc_if (W : World) (o : Obj) (k : Nat) : (W.alloc o).heap[k]? = if k = W.heap.size then some o else W.heap[k]? := by
  by_cases h : k = W.heap.size
  · subst h; rw [if_pos rfl, heap_alloc_new]
  · rw [if_neg h]
    by_cases h2 : k < W.heap.size
    · exact Below.heap_alloc _ _ _ h2
    · rw [Array.getElem?_eq_none (by simp; omega), Array.getElem?_eq_none (by omega)]
theorem BR.made {W : World} {b n : Nat} {mc : Array Value} (hm : mc = madeCells #[Value.bool false] n) (h : W.heap[b]? = some (.cells mc 4 (0, 0))) (hn : n ≤ 4096) : BR W b n (List.replicate n false) := by
  refine ⟨mc, h, by simp, by unfold maxLen; omega, fun i x hi => ?_⟩
  rw [List.getElem?_replicate] at hi
  split at hi
  case isTrue hlt =>
    cases hi
    rw [hm]
    unfold madeCells
    simp [hlt, Nat.mod_one]
  case isFalse => cases hi
theorem hd_at {w W : World} {b bt bh bf n : Nat} {mc : Array Value} (hm : mc = madeCells #[Value.bool false] n) (hn : n ≤ 4096)
    (h1 : W.heap[b]? = some (.cells #[.int .i64 0, .slice (some ⟨bt, 0, none⟩) n n, .slice (some ⟨bh, 0, none⟩) n n, .map (some bf), .bool false] 59 (0, 0)))
    (h2 : W.heap[bt]? = some (.cells mc 4 (0, 0))) (h3 : W.heap[bh]? = some (.cells mc 4 (0, 0))) (h4 : W.heap[bf]? = some (.map #[] 0))
    (h5 : w.heap.size ≤ b ∧ w.heap.size ≤ bt ∧ w.heap.size ≤ bh ∧ w.heap.size ≤ bf ∧ bt ≠ bh) (h6 : Below w.heap.size w W) : HdAt w W b bt bh bf n :=
  ⟨h1, .made hm h2 hn, .made hm h3 hn, ⟨#[], 0, h4, rfl, by simp, by simp⟩, h5.1, h5.2.1, h5.2.2.1, h5.2.2.2.1, h5.2.2.2.2, h6⟩
theorem ch4 (w : World) (a b c d e : Obj) : (((((w.alloc a).alloc b).alloc c).alloc d).alloc e).drew.heap[w.heap.size + 1 + 1 + 1 + 1]? = some e := blk_newAt (by simp) _
theorem ch3 (w : World) (a b c d e : Obj) : (((((w.alloc a).alloc b).alloc c).alloc d).alloc e).drew.heap[w.heap.size + 1 + 1 + 1]? = some d := blk_alloc (blk_newAt (by simp) _) _
theorem ch2 (w : World) (a b c d e : Obj) : (((((w.alloc a).alloc b).alloc c).alloc d).alloc e).drew.heap[w.heap.size + 1 + 1]? = some c := blk_alloc (blk_alloc (blk_newAt (by simp) _) _) _
theorem ch0 (w : World) (a b c d e : Obj) : (((((w.alloc a).alloc b).alloc c).alloc d).alloc e).drew.heap[w.heap.size]? = some a := blk_alloc (blk_alloc (blk_alloc (blk_alloc (blk_new _ _) _) _) _) _
theorem ch1 (w : World) (a b c d e : Obj) : (((((w.alloc a).alloc b).alloc c).alloc d).alloc e).drew.heap[w.heap.size + 1]? = some b := blk_alloc (blk_alloc (blk_alloc (blk_newAt (by simp) _) _) _) _
theorem below5 (w : World) (a b c d e : Obj) : Below w.heap.size w (((((w.alloc a).alloc b).alloc c).alloc d).alloc e).drew :=
  (((((((Below.refl _ w).alloc (Nat.le_refl _) _).alloc (by simp only [World.size_alloc]; omega) _).alloc (by simp only [World.size_alloc]; omega) _).alloc (by simp only [World.size_alloc]; omega) _).alloc (by simp only [World.size_alloc]; omega) _)).drew
/-- a bit of a head's bytes -/
def decB (b : ByteArray) (p : Nat) : Bool := (b.data.toList.getD (8 + p / 8) 0).toNat.testBit (p % 8)
def decJ (b : ByteArray) (n j : Nat) : List Bool := (List.range n).map fun p => decide (p < j) && decB b p
def decL (b : ByteArray) (n : Nat) : List Bool := (List.range n).map (decB b)
theorem decJ_len (b : ByteArray) (n j : Nat) : (decJ b n j).length = n := by simp [decJ]
theorem decJ_zero (b : ByteArray) (n : Nat) : decJ b n 0 = List.replicate n false := by
  unfold decJ
  apply List.ext_getElem?
  intro i
  rw [List.getElem?_map, List.getElem?_replicate]
  by_cases h : i < n
  · rw [List.getElem?_range h, if_pos h]; simp
  · rw [List.getElem?_eq_none (by rw [List.length_range]; omega), if_neg h]; rfl
theorem decJ_all (b : ByteArray) (n : Nat) : decJ b n n = decL b n := by
  unfold decJ decL
  apply List.map_congr_left
  intro p hp
  rw [decide_eq_true (List.mem_range.1 hp), Bool.true_and]
theorem decJ_set (b : ByteArray) (n j : Nat) (hj : j < n) : (decJ b n j).set j (decB b j) = decJ b n (j + 1) := by
  apply List.ext_getElem?
  intro i
  rw [List.getElem?_set, decJ_len]
  by_cases hi : i < n
  · unfold decJ
    rw [List.getElem?_map, List.getElem?_map, List.getElem?_range hi]
    by_cases e : j = i
    · subst e
      rw [if_pos rfl, if_pos hj]; simp
    · rw [if_neg e]
      simp only [Option.map_some, Option.some.injEq]
      congr 1
      by_cases h1 : i < j
      · rw [decide_eq_true h1, decide_eq_true (by omega)]
      · rw [decide_eq_false h1, decide_eq_false (by omega)]
  · rw [List.getElem?_eq_none (by rw [decJ_len]; omega), List.getElem?_eq_none (by rw [decJ_len]; omega)]
    by_cases e : j = i
    · omega
    · rw [if_neg e]
/-- the state that a head's bytes say -/
def rootB (b : ByteArray) : Int := Rd.val ⟨b, false⟩ 8
def okB (b : ByteArray) (n : Nat) : Bool :=
  (decide (bitsB (decL b n) = b.extract 8 b.size)) && ((!(decL b n).getD 0 false) && ((!(decL b n).getD 1 false) && (rootB b == 0 || hasB (decL b n) (rootB b))))
def headF (b : ByteArray) (n : Nat) : Option St :=
  if (b.size = 8 + bitsN n ∧ rootB b < n) ∧ okB b n = true then some ⟨rootB b, decL b n, List.replicate n false, [], false⟩ else none
def HeadR (V : Nat → Prop) (r : Option St) (w0 : World) (e : Ending) (w' : World) : Prop :=
  match r with
  | none => ∃ c0 c1 c2 c3 c4, e = .returned (.tuple #[.agg #[c0, c1, c2, c3, c4], .bool false]) ∧ ∀ v ∈ [c0, c1, c2, c3, c4], v.oneCell' = true
  | some s => ∃ m, e = .returned (.tuple #[.agg (stCells m s).toArray, .bool true]) ∧ StIs w' V m s ∧ ∀ i, m.blk i → w0.heap.size ≤ i
theorem dec_bit (x r : Nat) (hx : x < 256) : (bits BinOp.and IntKind.u8 ((x : Int) / 2 ^ r) 1 == 1) = x.testBit r := by
  have h2 : x / 2 ^ r < 256 := Nat.lt_of_le_of_lt (Nat.div_le_self _ _) hx
  have h3 : (x : Int) / 2 ^ r = ((x / 2 ^ r : Nat) : Int) := by rw [Int.natCast_ediv]; simp
  have h4 := u8_and_nat (x / 2 ^ r) 1 h2 (by decide)
  rw [Nat.testBit_eq_decide_div_mod_eq, h3, show (1 : Int) = ((1 : Nat) : Int) from rfl, h4, Nat.and_one_is_mod]
  by_cases h : x / 2 ^ r % 2 = 1
  · rw [h, decide_eq_true rfl]; rfl
  · rw [decide_eq_false h, show x / 2 ^ r % 2 = 0 by omega]; rfl
theorem head_out {V : Nat → Prop} {b : ByteArray} {n : Nat} {w W : World} {bt bh bf : Nat} {root : Int} {L : List Bool} {val : Bool} (hok : b.size = 8 + bitsN n ∧ rootB b < n) (h0 : 0 ≤ rootB b) (hr : root = rootB b) (hL : L = decL b n) (hv : okB b n = val) (h4 : 4 ≤ n) (hn : n ≤ 4096)
    (ht : BR W bt n L) (hh : BR W bh n (List.replicate n false)) (hm : IMapAt W bf []) (hne : bt ≠ bh) (l1 : w.heap.size ≤ bt) (l2 : w.heap.size ≤ bh) (l3 : w.heap.size ≤ bf) :
    HeadR V (headF b n) w (.returned (.tuple #[.agg #[.int .i64 root, .slice (some ⟨bt, 0, none⟩) n n, .slice (some ⟨bh, 0, none⟩) n n, .map (some bf), .bool false], .bool val])) W := by
  subst hr; subst hL
  have hl : (decL b n).length = n := by simp [decL]
  cases val with
  | false =>
    have : headF b n = none := by unfold headF; rw [if_neg (fun h => by rw [hv] at h; cases h.2)]
    rw [this]; exact ⟨_, _, _, _, _, rfl, by simp [Value.oneCell']⟩
  | true =>
    have : headF b n = some ⟨rootB b, decL b n, List.replicate n false, [], false⟩ := by unfold headF; rw [if_pos ⟨hok, hv⟩]
    rw [this]
    refine ⟨⟨bt, n, bh, n, bf⟩, ?_, ⟨ht, hh, ⟨[], hm, rfl, fun i q hq => by simp at hq⟩, hne, by simp [hl], by rw [hl]; exact h4, by rw [hl]; exact hn, ⟨h0, by rw [hl]; exact hok.2⟩, fun q hq => by simp at hq, by simp⟩, ?_⟩
    · simp [stCells, hl]
    · intro i hi
      have hi' : i = bt ∨ i = bh ∨ i = bf := hi
      omega
theorem agg59 : ∃ f, Try.prog.underlying 59 = some (.struct f) := by
  have h : (match Try.prog.underlying 59 with | some (.struct _) => true | _ => false) = true := by kernel_rfl
  cases hu : Try.prog.underlying 59 with
  | none => rw [hu] at h; cases h
  | some d => rw [hu] at h; cases d <;> first | exact ⟨_, rfl⟩ | cases h
theorem load59 {o : Oper} {a : Act} {w : World} {K : Act → World → Prop} {Q : Exit → Act → World → Prop} (x : Operand) (ho : o.op = .load 59 x) (g : Nat) (hx : a.eval x = .pointer (some ⟨g, 0, none⟩)) (c0 c1 c2 c3 c4 : Value) (fr : Nat × Nat) (hg : w.heap[g]? = some (.cells #[c0, c1, c2, c3, c4] 59 fr))
    (h : K (a.put o.dst (.agg #[c0, c1, c2, c3, c4])) w) : o.wp Try.prog a w K Q := by
  obtain ⟨f, hu⟩ := agg59
  exact wp_load_row 59 x ho g hx 59 #[c0, c1, c2, c3, c4] fr (.struct f) hg hu rfl (by kernel_rfl) h
theorem headed_any (V : Nat → Prop) (v : Value) (b : ByteArray) (n : Nat) (w : World) (hS : BS w v b) (hb : b.size ≤ 4011) (h4 : 4 ≤ n) (hn : n ≤ 4096) :
    Calls Try.prog 46 #[v, .int .i64 n] w fun e w' => HeadR V (headF b n) w e w' ∧ Below w.heap.size w w' := by
  obtain ⟨R, hR⟩ : ∃ R, R = headF b n := ⟨_, rfl⟩
  rw [← hR]
  have HRR := Lib.hid hR
  clear hR
  obtain ⟨a, c, rfl⟩ := hS.len
  have hmk := fun W : World => run_make_row' (P := Try.prog) 57 4 (.bool false) 1 uBools iBool rfl .i64 .i64 n (by omega) (by omega) W
  obtain ⟨mc, hmc⟩ : ∃ mc, mc = madeCells #[Value.bool false] n := ⟨_, rfl⟩
  rw [← hmc] at hmk
  have HMC := Lib.hid hmc
  have hmm : ∀ w : World, (Instr.makeMap 51 none).run Try.prog w = .ok (.map (some w.heap.size)) (w.alloc (.map #[] 0)) := fun w => by kernel_rfl
  clear hmc
  go_enter Try.func46, Try.ntmps46
  go_upto_region 1 with fail
  go_cut [6, 12, 14, 15] (fun s6 s12 s14 s15 wx => ∃ b bt bh bf, s6 = .pointer (some ⟨b, 0, none⟩) ∧ s12 = .slice (some ⟨bt, 0, none⟩) n n ∧ s14 = .slice (some ⟨bh, 0, none⟩) n n ∧ s15 = .map (some bf) ∧ Hid (HdAt w wx b bt bh bf n) ∧ b ≠ w.heap.size ∧ Hid (wx.heap[w.heap.size]? = some (.cells #[.int .i64 0, .slice none 0 0, .slice none 0 0, .map none, .bool false] 59 (0, 0))))
  case first =>
    refine wp_region_held_drew (S := (fun w' => True)) (by kernel_rfl) ?_ (fun hHeld0 => ?_)
    · dsimp only
    refine takeN (v := ?_) 0 rfl (by kernel_rfl) (by kernel_rfl) (by kernel_rfl) (fun _ _ _ h => h) (by rfl) ?_ hHeld0 ?_
    rotate_left
    · intro w hSw; (try dsimp only at hSw); go_simp; with_reducible rfl
    try simp only [Act.put, List.setIfInBounds_toArray, List.set_cons_zero, List.set_cons_succ]
    refine takeN (v := ?_) 2 rfl (by kernel_rfl) (by kernel_rfl) (by kernel_rfl) (fun _ _ _ h => h) (by rfl) ?_ hHeld0 ?_
    rotate_left
    · intro w hSw; (try dsimp only at hSw); go_simp; with_reducible rfl
    try simp only [Act.put, List.setIfInBounds_toArray, List.set_cons_zero, List.set_cons_succ]
    refine wpAnyH_ready (rs := [1, 3, 4, 6]) (by kernel_rfl) (by simp) ?_
    refine readyN rfl (fun K hK => ?_) ?_
    · -- operation 1
      go_simp
      refine hK.out _ _ ?_ (fun hHeld1 => ?_)
      · dsimp only
      clear hK K hHeld0
      try simp only [Act.put, List.setIfInBounds_toArray, List.set_cons_zero, List.set_cons_succ]
      refine wpAnyH_ready (rs := [3, 4, 6]) (by kernel_rfl) (by simp) ?_
      refine readyN rfl (fun K hK => ?_) ?_
      · -- operation 3
        go_simp
        refine hK.out _ _ ?_ (fun hHeld2 => ?_)
        · dsimp only
        clear hK K hHeld1
        try simp only [Act.put, List.setIfInBounds_toArray, List.set_cons_zero, List.set_cons_succ]
        refine wpAnyH_ready (rs := [4, 6]) (by kernel_rfl) (by simp) ?_
        refine readyN rfl (fun K hK => ?_) ?_
        · -- operation 4
          go_simp
          refine hK.out _ _ ?_ (fun hHeld3 => ?_)
          · dsimp only
          clear hK K hHeld2
          try simp only [Act.put, List.setIfInBounds_toArray, List.set_cons_zero, List.set_cons_succ]
          refine takeN (v := ?_) 5 rfl (by kernel_rfl) (by kernel_rfl) (by kernel_rfl) (fun _ _ _ h => h) (by rfl) ?_ hHeld3 ?_
          rotate_left
          · intro w hSw; (try dsimp only at hSw); go_simp; with_reducible rfl
          try simp only [Act.put, List.setIfInBounds_toArray, List.set_cons_zero, List.set_cons_succ]
          refine wpAnyH_ready (rs := [6]) (by kernel_rfl) (by simp) ?_
          refine readyN rfl (fun K hK => ?_) ?_
          · -- operation 6
            go_simp
            refine hK.out _ _ ?_ (fun hHeld4 => ?_)
            · dsimp only
            clear hK K hHeld3
            try simp only [Act.put, List.setIfInBounds_toArray, List.set_cons_zero, List.set_cons_succ]
            refine wpAnyH_ready (rs := [7]) (by kernel_rfl) (by simp) ?_
            refine readyN rfl (fun K hK => ?_) ?_
            · -- operation 7
              go_simp
              refine hK.out _ _ ?_ (fun hHeld5 => ?_)
              · dsimp only
              clear hK K hHeld4
              try simp only [Act.put, List.setIfInBounds_toArray, List.set_cons_zero, List.set_cons_succ]
              refine wpAnyH_done (by kernel_rfl) ?_ _
              go_wp2_with fail
              go_meet
              refine ⟨_, _, _, _, rfl, rfl, rfl, rfl, Lib.hid (hd_at HMC.out hn (by first | exact ch4 _ _ _ _ _ _ | exact ch3 _ _ _ _ _ _ | exact ch2 _ _ _ _ _ _ | exact ch1 _ _ _ _ _ _) (by first | exact ch4 _ _ _ _ _ _ | exact ch3 _ _ _ _ _ _ | exact ch2 _ _ _ _ _ _ | exact ch1 _ _ _ _ _ _) (by first | exact ch4 _ _ _ _ _ _ | exact ch3 _ _ _ _ _ _ | exact ch2 _ _ _ _ _ _ | exact ch1 _ _ _ _ _ _) (by first | exact ch4 _ _ _ _ _ _ | exact ch3 _ _ _ _ _ _ | exact ch2 _ _ _ _ _ _ | exact ch1 _ _ _ _ _ _) ⟨by omega, by omega, by omega, by omega, by omega⟩ (below5 w _ _ _ _ _)), by omega, Lib.hid (ch0 _ _ _ _ _ _)⟩
            exact AllReadyH.nil
          exact AllReadyH.nil
        refine readyN rfl (fun K hK => ?_) ?_
        · -- operation 6
          go_simp
          refine hK.out _ _ ?_ (fun hHeld3 => ?_)
          · dsimp only
          clear hK K hHeld2
          try simp only [Act.put, List.setIfInBounds_toArray, List.set_cons_zero, List.set_cons_succ]
          refine wpAnyH_ready (rs := [4]) (by kernel_rfl) (by simp) ?_
          refine readyN rfl (fun K hK => ?_) ?_
          · -- operation 4
            go_simp
            refine hK.out _ _ ?_ (fun hHeld4 => ?_)
            · dsimp only
            clear hK K hHeld3
            try simp only [Act.put, List.setIfInBounds_toArray, List.set_cons_zero, List.set_cons_succ]
            refine takeN (v := ?_) 5 rfl (by kernel_rfl) (by kernel_rfl) (by kernel_rfl) (fun _ _ _ h => h) (by rfl) ?_ hHeld4 ?_
            rotate_left
            · intro w hSw; (try dsimp only at hSw); go_simp; with_reducible rfl
            try simp only [Act.put, List.setIfInBounds_toArray, List.set_cons_zero, List.set_cons_succ]
            refine wpAnyH_ready (rs := [7]) (by kernel_rfl) (by simp) ?_
            refine readyN rfl (fun K hK => ?_) ?_
            · -- operation 7
              go_simp
              refine hK.out _ _ ?_ (fun hHeld5 => ?_)
              · dsimp only
              clear hK K hHeld4
              try simp only [Act.put, List.setIfInBounds_toArray, List.set_cons_zero, List.set_cons_succ]
              refine wpAnyH_done (by kernel_rfl) ?_ _
              go_wp2_with fail
              go_meet
              refine ⟨_, _, _, _, rfl, rfl, rfl, rfl, Lib.hid (hd_at HMC.out hn (by first | exact ch4 _ _ _ _ _ _ | exact ch3 _ _ _ _ _ _ | exact ch2 _ _ _ _ _ _ | exact ch1 _ _ _ _ _ _) (by first | exact ch4 _ _ _ _ _ _ | exact ch3 _ _ _ _ _ _ | exact ch2 _ _ _ _ _ _ | exact ch1 _ _ _ _ _ _) (by first | exact ch4 _ _ _ _ _ _ | exact ch3 _ _ _ _ _ _ | exact ch2 _ _ _ _ _ _ | exact ch1 _ _ _ _ _ _) (by first | exact ch4 _ _ _ _ _ _ | exact ch3 _ _ _ _ _ _ | exact ch2 _ _ _ _ _ _ | exact ch1 _ _ _ _ _ _) ⟨by omega, by omega, by omega, by omega, by omega⟩ (below5 w _ _ _ _ _)), by omega, Lib.hid (ch0 _ _ _ _ _ _)⟩
            exact AllReadyH.nil
          exact AllReadyH.nil
        exact AllReadyH.nil
      refine readyN rfl (fun K hK => ?_) ?_
      · -- operation 4
        go_simp
        refine hK.out _ _ ?_ (fun hHeld2 => ?_)
        · dsimp only
        clear hK K hHeld1
        try simp only [Act.put, List.setIfInBounds_toArray, List.set_cons_zero, List.set_cons_succ]
        refine wpAnyH_ready (rs := [3, 6]) (by kernel_rfl) (by simp) ?_
        refine readyN rfl (fun K hK => ?_) ?_
        · -- operation 3
          go_simp
          refine hK.out _ _ ?_ (fun hHeld3 => ?_)
          · dsimp only
          clear hK K hHeld2
          try simp only [Act.put, List.setIfInBounds_toArray, List.set_cons_zero, List.set_cons_succ]
          refine takeN (v := ?_) 5 rfl (by kernel_rfl) (by kernel_rfl) (by kernel_rfl) (fun _ _ _ h => h) (by rfl) ?_ hHeld3 ?_
          rotate_left
          · intro w hSw; (try dsimp only at hSw); go_simp; with_reducible rfl
          try simp only [Act.put, List.setIfInBounds_toArray, List.set_cons_zero, List.set_cons_succ]
          refine wpAnyH_ready (rs := [6]) (by kernel_rfl) (by simp) ?_
          refine readyN rfl (fun K hK => ?_) ?_
          · -- operation 6
            go_simp
            refine hK.out _ _ ?_ (fun hHeld4 => ?_)
            · dsimp only
            clear hK K hHeld3
            try simp only [Act.put, List.setIfInBounds_toArray, List.set_cons_zero, List.set_cons_succ]
            refine wpAnyH_ready (rs := [7]) (by kernel_rfl) (by simp) ?_
            refine readyN rfl (fun K hK => ?_) ?_
            · -- operation 7
              go_simp
              refine hK.out _ _ ?_ (fun hHeld5 => ?_)
              · dsimp only
              clear hK K hHeld4
              try simp only [Act.put, List.setIfInBounds_toArray, List.set_cons_zero, List.set_cons_succ]
              refine wpAnyH_done (by kernel_rfl) ?_ _
              go_wp2_with fail
              go_meet
              refine ⟨_, _, _, _, rfl, rfl, rfl, rfl, Lib.hid (hd_at HMC.out hn (by first | exact ch4 _ _ _ _ _ _ | exact ch3 _ _ _ _ _ _ | exact ch2 _ _ _ _ _ _ | exact ch1 _ _ _ _ _ _) (by first | exact ch4 _ _ _ _ _ _ | exact ch3 _ _ _ _ _ _ | exact ch2 _ _ _ _ _ _ | exact ch1 _ _ _ _ _ _) (by first | exact ch4 _ _ _ _ _ _ | exact ch3 _ _ _ _ _ _ | exact ch2 _ _ _ _ _ _ | exact ch1 _ _ _ _ _ _) (by first | exact ch4 _ _ _ _ _ _ | exact ch3 _ _ _ _ _ _ | exact ch2 _ _ _ _ _ _ | exact ch1 _ _ _ _ _ _) ⟨by omega, by omega, by omega, by omega, by omega⟩ (below5 w _ _ _ _ _)), by omega, Lib.hid (ch0 _ _ _ _ _ _)⟩
            exact AllReadyH.nil
          exact AllReadyH.nil
        refine readyN rfl (fun K hK => ?_) ?_
        · -- operation 6
          go_simp
          refine hK.out _ _ ?_ (fun hHeld3 => ?_)
          · dsimp only
          clear hK K hHeld2
          try simp only [Act.put, List.setIfInBounds_toArray, List.set_cons_zero, List.set_cons_succ]
          refine wpAnyH_ready (rs := [3]) (by kernel_rfl) (by simp) ?_
          refine readyN rfl (fun K hK => ?_) ?_
          · -- operation 3
            go_simp
            refine hK.out _ _ ?_ (fun hHeld4 => ?_)
            · dsimp only
            clear hK K hHeld3
            try simp only [Act.put, List.setIfInBounds_toArray, List.set_cons_zero, List.set_cons_succ]
            refine takeN (v := ?_) 5 rfl (by kernel_rfl) (by kernel_rfl) (by kernel_rfl) (fun _ _ _ h => h) (by rfl) ?_ hHeld4 ?_
            rotate_left
            · intro w hSw; (try dsimp only at hSw); go_simp; with_reducible rfl
            try simp only [Act.put, List.setIfInBounds_toArray, List.set_cons_zero, List.set_cons_succ]
            refine wpAnyH_ready (rs := [7]) (by kernel_rfl) (by simp) ?_
            refine readyN rfl (fun K hK => ?_) ?_
            · -- operation 7
              go_simp
              refine hK.out _ _ ?_ (fun hHeld5 => ?_)
              · dsimp only
              clear hK K hHeld4
              try simp only [Act.put, List.setIfInBounds_toArray, List.set_cons_zero, List.set_cons_succ]
              refine wpAnyH_done (by kernel_rfl) ?_ _
              go_wp2_with fail
              go_meet
              refine ⟨_, _, _, _, rfl, rfl, rfl, rfl, Lib.hid (hd_at HMC.out hn (by first | exact ch4 _ _ _ _ _ _ | exact ch3 _ _ _ _ _ _ | exact ch2 _ _ _ _ _ _ | exact ch1 _ _ _ _ _ _) (by first | exact ch4 _ _ _ _ _ _ | exact ch3 _ _ _ _ _ _ | exact ch2 _ _ _ _ _ _ | exact ch1 _ _ _ _ _ _) (by first | exact ch4 _ _ _ _ _ _ | exact ch3 _ _ _ _ _ _ | exact ch2 _ _ _ _ _ _ | exact ch1 _ _ _ _ _ _) (by first | exact ch4 _ _ _ _ _ _ | exact ch3 _ _ _ _ _ _ | exact ch2 _ _ _ _ _ _ | exact ch1 _ _ _ _ _ _) ⟨by omega, by omega, by omega, by omega, by omega⟩ (below5 w _ _ _ _ _)), by omega, Lib.hid (ch0 _ _ _ _ _ _)⟩
            exact AllReadyH.nil
          exact AllReadyH.nil
        exact AllReadyH.nil
      refine readyN rfl (fun K hK => ?_) ?_
      · -- operation 6
        go_simp
        refine hK.out _ _ ?_ (fun hHeld2 => ?_)
        · dsimp only
        clear hK K hHeld1
        try simp only [Act.put, List.setIfInBounds_toArray, List.set_cons_zero, List.set_cons_succ]
        refine wpAnyH_ready (rs := [3, 4]) (by kernel_rfl) (by simp) ?_
        refine readyN rfl (fun K hK => ?_) ?_
        · -- operation 3
          go_simp
          refine hK.out _ _ ?_ (fun hHeld3 => ?_)
          · dsimp only
          clear hK K hHeld2
          try simp only [Act.put, List.setIfInBounds_toArray, List.set_cons_zero, List.set_cons_succ]
          refine wpAnyH_ready (rs := [4]) (by kernel_rfl) (by simp) ?_
          refine readyN rfl (fun K hK => ?_) ?_
          · -- operation 4
            go_simp
            refine hK.out _ _ ?_ (fun hHeld4 => ?_)
            · dsimp only
            clear hK K hHeld3
            try simp only [Act.put, List.setIfInBounds_toArray, List.set_cons_zero, List.set_cons_succ]
            refine takeN (v := ?_) 5 rfl (by kernel_rfl) (by kernel_rfl) (by kernel_rfl) (fun _ _ _ h => h) (by rfl) ?_ hHeld4 ?_
            rotate_left
            · intro w hSw; (try dsimp only at hSw); go_simp; with_reducible rfl
            try simp only [Act.put, List.setIfInBounds_toArray, List.set_cons_zero, List.set_cons_succ]
            refine wpAnyH_ready (rs := [7]) (by kernel_rfl) (by simp) ?_
            refine readyN rfl (fun K hK => ?_) ?_
            · -- operation 7
              go_simp
              refine hK.out _ _ ?_ (fun hHeld5 => ?_)
              · dsimp only
              clear hK K hHeld4
              try simp only [Act.put, List.setIfInBounds_toArray, List.set_cons_zero, List.set_cons_succ]
              refine wpAnyH_done (by kernel_rfl) ?_ _
              go_wp2_with fail
              go_meet
              refine ⟨_, _, _, _, rfl, rfl, rfl, rfl, Lib.hid (hd_at HMC.out hn (by first | exact ch4 _ _ _ _ _ _ | exact ch3 _ _ _ _ _ _ | exact ch2 _ _ _ _ _ _ | exact ch1 _ _ _ _ _ _) (by first | exact ch4 _ _ _ _ _ _ | exact ch3 _ _ _ _ _ _ | exact ch2 _ _ _ _ _ _ | exact ch1 _ _ _ _ _ _) (by first | exact ch4 _ _ _ _ _ _ | exact ch3 _ _ _ _ _ _ | exact ch2 _ _ _ _ _ _ | exact ch1 _ _ _ _ _ _) (by first | exact ch4 _ _ _ _ _ _ | exact ch3 _ _ _ _ _ _ | exact ch2 _ _ _ _ _ _ | exact ch1 _ _ _ _ _ _) ⟨by omega, by omega, by omega, by omega, by omega⟩ (below5 w _ _ _ _ _)), by omega, Lib.hid (ch0 _ _ _ _ _ _)⟩
            exact AllReadyH.nil
          exact AllReadyH.nil
        refine readyN rfl (fun K hK => ?_) ?_
        · -- operation 4
          go_simp
          refine hK.out _ _ ?_ (fun hHeld3 => ?_)
          · dsimp only
          clear hK K hHeld2
          try simp only [Act.put, List.setIfInBounds_toArray, List.set_cons_zero, List.set_cons_succ]
          refine wpAnyH_ready (rs := [3]) (by kernel_rfl) (by simp) ?_
          refine readyN rfl (fun K hK => ?_) ?_
          · -- operation 3
            go_simp
            refine hK.out _ _ ?_ (fun hHeld4 => ?_)
            · dsimp only
            clear hK K hHeld3
            try simp only [Act.put, List.setIfInBounds_toArray, List.set_cons_zero, List.set_cons_succ]
            refine takeN (v := ?_) 5 rfl (by kernel_rfl) (by kernel_rfl) (by kernel_rfl) (fun _ _ _ h => h) (by rfl) ?_ hHeld4 ?_
            rotate_left
            · intro w hSw; (try dsimp only at hSw); go_simp; with_reducible rfl
            try simp only [Act.put, List.setIfInBounds_toArray, List.set_cons_zero, List.set_cons_succ]
            refine wpAnyH_ready (rs := [7]) (by kernel_rfl) (by simp) ?_
            refine readyN rfl (fun K hK => ?_) ?_
            · -- operation 7
              go_simp
              refine hK.out _ _ ?_ (fun hHeld5 => ?_)
              · dsimp only
              clear hK K hHeld4
              try simp only [Act.put, List.setIfInBounds_toArray, List.set_cons_zero, List.set_cons_succ]
              refine wpAnyH_done (by kernel_rfl) ?_ _
              go_wp2_with fail
              go_meet
              refine ⟨_, _, _, _, rfl, rfl, rfl, rfl, Lib.hid (hd_at HMC.out hn (by first | exact ch4 _ _ _ _ _ _ | exact ch3 _ _ _ _ _ _ | exact ch2 _ _ _ _ _ _ | exact ch1 _ _ _ _ _ _) (by first | exact ch4 _ _ _ _ _ _ | exact ch3 _ _ _ _ _ _ | exact ch2 _ _ _ _ _ _ | exact ch1 _ _ _ _ _ _) (by first | exact ch4 _ _ _ _ _ _ | exact ch3 _ _ _ _ _ _ | exact ch2 _ _ _ _ _ _ | exact ch1 _ _ _ _ _ _) (by first | exact ch4 _ _ _ _ _ _ | exact ch3 _ _ _ _ _ _ | exact ch2 _ _ _ _ _ _ | exact ch1 _ _ _ _ _ _) ⟨by omega, by omega, by omega, by omega, by omega⟩ (below5 w _ _ _ _ _)), by omega, Lib.hid (ch0 _ _ _ _ _ _)⟩
            exact AllReadyH.nil
          exact AllReadyH.nil
        exact AllReadyH.nil
      exact AllReadyH.nil
    refine readyN rfl (fun K hK => ?_) ?_
    · -- operation 3
      go_simp
      refine hK.out _ _ ?_ (fun hHeld1 => ?_)
      · dsimp only
      clear hK K hHeld0
      try simp only [Act.put, List.setIfInBounds_toArray, List.set_cons_zero, List.set_cons_succ]
      refine wpAnyH_ready (rs := [1, 4, 6]) (by kernel_rfl) (by simp) ?_
      refine readyN rfl (fun K hK => ?_) ?_
      · -- operation 1
        go_simp
        refine hK.out _ _ ?_ (fun hHeld2 => ?_)
        · dsimp only
        clear hK K hHeld1
        try simp only [Act.put, List.setIfInBounds_toArray, List.set_cons_zero, List.set_cons_succ]
        refine wpAnyH_ready (rs := [4, 6]) (by kernel_rfl) (by simp) ?_
        refine readyN rfl (fun K hK => ?_) ?_
        · -- operation 4
          go_simp
          refine hK.out _ _ ?_ (fun hHeld3 => ?_)
          · dsimp only
          clear hK K hHeld2
          try simp only [Act.put, List.setIfInBounds_toArray, List.set_cons_zero, List.set_cons_succ]
          refine takeN (v := ?_) 5 rfl (by kernel_rfl) (by kernel_rfl) (by kernel_rfl) (fun _ _ _ h => h) (by rfl) ?_ hHeld3 ?_
          rotate_left
          · intro w hSw; (try dsimp only at hSw); go_simp; with_reducible rfl
          try simp only [Act.put, List.setIfInBounds_toArray, List.set_cons_zero, List.set_cons_succ]
          refine wpAnyH_ready (rs := [6]) (by kernel_rfl) (by simp) ?_
          refine readyN rfl (fun K hK => ?_) ?_
          · -- operation 6
            go_simp
            refine hK.out _ _ ?_ (fun hHeld4 => ?_)
            · dsimp only
            clear hK K hHeld3
            try simp only [Act.put, List.setIfInBounds_toArray, List.set_cons_zero, List.set_cons_succ]
            refine wpAnyH_ready (rs := [7]) (by kernel_rfl) (by simp) ?_
            refine readyN rfl (fun K hK => ?_) ?_
            · -- operation 7
              go_simp
              refine hK.out _ _ ?_ (fun hHeld5 => ?_)
              · dsimp only
              clear hK K hHeld4
              try simp only [Act.put, List.setIfInBounds_toArray, List.set_cons_zero, List.set_cons_succ]
              refine wpAnyH_done (by kernel_rfl) ?_ _
              go_wp2_with fail
              go_meet
              refine ⟨_, _, _, _, rfl, rfl, rfl, rfl, Lib.hid (hd_at HMC.out hn (by first | exact ch4 _ _ _ _ _ _ | exact ch3 _ _ _ _ _ _ | exact ch2 _ _ _ _ _ _ | exact ch1 _ _ _ _ _ _) (by first | exact ch4 _ _ _ _ _ _ | exact ch3 _ _ _ _ _ _ | exact ch2 _ _ _ _ _ _ | exact ch1 _ _ _ _ _ _) (by first | exact ch4 _ _ _ _ _ _ | exact ch3 _ _ _ _ _ _ | exact ch2 _ _ _ _ _ _ | exact ch1 _ _ _ _ _ _) (by first | exact ch4 _ _ _ _ _ _ | exact ch3 _ _ _ _ _ _ | exact ch2 _ _ _ _ _ _ | exact ch1 _ _ _ _ _ _) ⟨by omega, by omega, by omega, by omega, by omega⟩ (below5 w _ _ _ _ _)), by omega, Lib.hid (ch0 _ _ _ _ _ _)⟩
            exact AllReadyH.nil
          exact AllReadyH.nil
        refine readyN rfl (fun K hK => ?_) ?_
        · -- operation 6
          go_simp
          refine hK.out _ _ ?_ (fun hHeld3 => ?_)
          · dsimp only
          clear hK K hHeld2
          try simp only [Act.put, List.setIfInBounds_toArray, List.set_cons_zero, List.set_cons_succ]
          refine wpAnyH_ready (rs := [4]) (by kernel_rfl) (by simp) ?_
          refine readyN rfl (fun K hK => ?_) ?_
          · -- operation 4
            go_simp
            refine hK.out _ _ ?_ (fun hHeld4 => ?_)
            · dsimp only
            clear hK K hHeld3
            try simp only [Act.put, List.setIfInBounds_toArray, List.set_cons_zero, List.set_cons_succ]
            refine takeN (v := ?_) 5 rfl (by kernel_rfl) (by kernel_rfl) (by kernel_rfl) (fun _ _ _ h => h) (by rfl) ?_ hHeld4 ?_
            rotate_left
            · intro w hSw; (try dsimp only at hSw); go_simp; with_reducible rfl
            try simp only [Act.put, List.setIfInBounds_toArray, List.set_cons_zero, List.set_cons_succ]
            refine wpAnyH_ready (rs := [7]) (by kernel_rfl) (by simp) ?_
            refine readyN rfl (fun K hK => ?_) ?_
            · -- operation 7
              go_simp
              refine hK.out _ _ ?_ (fun hHeld5 => ?_)
              · dsimp only
              clear hK K hHeld4
              try simp only [Act.put, List.setIfInBounds_toArray, List.set_cons_zero, List.set_cons_succ]
              refine wpAnyH_done (by kernel_rfl) ?_ _
              go_wp2_with fail
              go_meet
              refine ⟨_, _, _, _, rfl, rfl, rfl, rfl, Lib.hid (hd_at HMC.out hn (by first | exact ch4 _ _ _ _ _ _ | exact ch3 _ _ _ _ _ _ | exact ch2 _ _ _ _ _ _ | exact ch1 _ _ _ _ _ _) (by first | exact ch4 _ _ _ _ _ _ | exact ch3 _ _ _ _ _ _ | exact ch2 _ _ _ _ _ _ | exact ch1 _ _ _ _ _ _) (by first | exact ch4 _ _ _ _ _ _ | exact ch3 _ _ _ _ _ _ | exact ch2 _ _ _ _ _ _ | exact ch1 _ _ _ _ _ _) (by first | exact ch4 _ _ _ _ _ _ | exact ch3 _ _ _ _ _ _ | exact ch2 _ _ _ _ _ _ | exact ch1 _ _ _ _ _ _) ⟨by omega, by omega, by omega, by omega, by omega⟩ (below5 w _ _ _ _ _)), by omega, Lib.hid (ch0 _ _ _ _ _ _)⟩
            exact AllReadyH.nil
          exact AllReadyH.nil
        exact AllReadyH.nil
      refine readyN rfl (fun K hK => ?_) ?_
      · -- operation 4
        go_simp
        refine hK.out _ _ ?_ (fun hHeld2 => ?_)
        · dsimp only
        clear hK K hHeld1
        try simp only [Act.put, List.setIfInBounds_toArray, List.set_cons_zero, List.set_cons_succ]
        refine wpAnyH_ready (rs := [1, 6]) (by kernel_rfl) (by simp) ?_
        refine readyN rfl (fun K hK => ?_) ?_
        · -- operation 1
          go_simp
          refine hK.out _ _ ?_ (fun hHeld3 => ?_)
          · dsimp only
          clear hK K hHeld2
          try simp only [Act.put, List.setIfInBounds_toArray, List.set_cons_zero, List.set_cons_succ]
          refine takeN (v := ?_) 5 rfl (by kernel_rfl) (by kernel_rfl) (by kernel_rfl) (fun _ _ _ h => h) (by rfl) ?_ hHeld3 ?_
          rotate_left
          · intro w hSw; (try dsimp only at hSw); go_simp; with_reducible rfl
          try simp only [Act.put, List.setIfInBounds_toArray, List.set_cons_zero, List.set_cons_succ]
          refine wpAnyH_ready (rs := [6]) (by kernel_rfl) (by simp) ?_
          refine readyN rfl (fun K hK => ?_) ?_
          · -- operation 6
            go_simp
            refine hK.out _ _ ?_ (fun hHeld4 => ?_)
            · dsimp only
            clear hK K hHeld3
            try simp only [Act.put, List.setIfInBounds_toArray, List.set_cons_zero, List.set_cons_succ]
            refine wpAnyH_ready (rs := [7]) (by kernel_rfl) (by simp) ?_
            refine readyN rfl (fun K hK => ?_) ?_
            · -- operation 7
              go_simp
              refine hK.out _ _ ?_ (fun hHeld5 => ?_)
              · dsimp only
              clear hK K hHeld4
              try simp only [Act.put, List.setIfInBounds_toArray, List.set_cons_zero, List.set_cons_succ]
              refine wpAnyH_done (by kernel_rfl) ?_ _
              go_wp2_with fail
              go_meet
              refine ⟨_, _, _, _, rfl, rfl, rfl, rfl, Lib.hid (hd_at HMC.out hn (by first | exact ch4 _ _ _ _ _ _ | exact ch3 _ _ _ _ _ _ | exact ch2 _ _ _ _ _ _ | exact ch1 _ _ _ _ _ _) (by first | exact ch4 _ _ _ _ _ _ | exact ch3 _ _ _ _ _ _ | exact ch2 _ _ _ _ _ _ | exact ch1 _ _ _ _ _ _) (by first | exact ch4 _ _ _ _ _ _ | exact ch3 _ _ _ _ _ _ | exact ch2 _ _ _ _ _ _ | exact ch1 _ _ _ _ _ _) (by first | exact ch4 _ _ _ _ _ _ | exact ch3 _ _ _ _ _ _ | exact ch2 _ _ _ _ _ _ | exact ch1 _ _ _ _ _ _) ⟨by omega, by omega, by omega, by omega, by omega⟩ (below5 w _ _ _ _ _)), by omega, Lib.hid (ch0 _ _ _ _ _ _)⟩
            exact AllReadyH.nil
          exact AllReadyH.nil
        refine readyN rfl (fun K hK => ?_) ?_
        · -- operation 6
          go_simp
          refine hK.out _ _ ?_ (fun hHeld3 => ?_)
          · dsimp only
          clear hK K hHeld2
          try simp only [Act.put, List.setIfInBounds_toArray, List.set_cons_zero, List.set_cons_succ]
          refine wpAnyH_ready (rs := [1]) (by kernel_rfl) (by simp) ?_
          refine readyN rfl (fun K hK => ?_) ?_
          · -- operation 1
            go_simp
            refine hK.out _ _ ?_ (fun hHeld4 => ?_)
            · dsimp only
            clear hK K hHeld3
            try simp only [Act.put, List.setIfInBounds_toArray, List.set_cons_zero, List.set_cons_succ]
            refine takeN (v := ?_) 5 rfl (by kernel_rfl) (by kernel_rfl) (by kernel_rfl) (fun _ _ _ h => h) (by rfl) ?_ hHeld4 ?_
            rotate_left
            · intro w hSw; (try dsimp only at hSw); go_simp; with_reducible rfl
            try simp only [Act.put, List.setIfInBounds_toArray, List.set_cons_zero, List.set_cons_succ]
            refine wpAnyH_ready (rs := [7]) (by kernel_rfl) (by simp) ?_
            refine readyN rfl (fun K hK => ?_) ?_
            · -- operation 7
              go_simp
              refine hK.out _ _ ?_ (fun hHeld5 => ?_)
              · dsimp only
              clear hK K hHeld4
              try simp only [Act.put, List.setIfInBounds_toArray, List.set_cons_zero, List.set_cons_succ]
              refine wpAnyH_done (by kernel_rfl) ?_ _
              go_wp2_with fail
              go_meet
              refine ⟨_, _, _, _, rfl, rfl, rfl, rfl, Lib.hid (hd_at HMC.out hn (by first | exact ch4 _ _ _ _ _ _ | exact ch3 _ _ _ _ _ _ | exact ch2 _ _ _ _ _ _ | exact ch1 _ _ _ _ _ _) (by first | exact ch4 _ _ _ _ _ _ | exact ch3 _ _ _ _ _ _ | exact ch2 _ _ _ _ _ _ | exact ch1 _ _ _ _ _ _) (by first | exact ch4 _ _ _ _ _ _ | exact ch3 _ _ _ _ _ _ | exact ch2 _ _ _ _ _ _ | exact ch1 _ _ _ _ _ _) (by first | exact ch4 _ _ _ _ _ _ | exact ch3 _ _ _ _ _ _ | exact ch2 _ _ _ _ _ _ | exact ch1 _ _ _ _ _ _) ⟨by omega, by omega, by omega, by omega, by omega⟩ (below5 w _ _ _ _ _)), by omega, Lib.hid (ch0 _ _ _ _ _ _)⟩
            exact AllReadyH.nil
          exact AllReadyH.nil
        exact AllReadyH.nil
      refine readyN rfl (fun K hK => ?_) ?_
      · -- operation 6
        go_simp
        refine hK.out _ _ ?_ (fun hHeld2 => ?_)
        · dsimp only
        clear hK K hHeld1
        try simp only [Act.put, List.setIfInBounds_toArray, List.set_cons_zero, List.set_cons_succ]
        refine wpAnyH_ready (rs := [1, 4]) (by kernel_rfl) (by simp) ?_
        refine readyN rfl (fun K hK => ?_) ?_
        · -- operation 1
          go_simp
          refine hK.out _ _ ?_ (fun hHeld3 => ?_)
          · dsimp only
          clear hK K hHeld2
          try simp only [Act.put, List.setIfInBounds_toArray, List.set_cons_zero, List.set_cons_succ]
          refine wpAnyH_ready (rs := [4]) (by kernel_rfl) (by simp) ?_
          refine readyN rfl (fun K hK => ?_) ?_
          · -- operation 4
            go_simp
            refine hK.out _ _ ?_ (fun hHeld4 => ?_)
            · dsimp only
            clear hK K hHeld3
            try simp only [Act.put, List.setIfInBounds_toArray, List.set_cons_zero, List.set_cons_succ]
            refine takeN (v := ?_) 5 rfl (by kernel_rfl) (by kernel_rfl) (by kernel_rfl) (fun _ _ _ h => h) (by rfl) ?_ hHeld4 ?_
            rotate_left
            · intro w hSw; (try dsimp only at hSw); go_simp; with_reducible rfl
            try simp only [Act.put, List.setIfInBounds_toArray, List.set_cons_zero, List.set_cons_succ]
            refine wpAnyH_ready (rs := [7]) (by kernel_rfl) (by simp) ?_
            refine readyN rfl (fun K hK => ?_) ?_
            · -- operation 7
              go_simp
              refine hK.out _ _ ?_ (fun hHeld5 => ?_)
              · dsimp only
              clear hK K hHeld4
              try simp only [Act.put, List.setIfInBounds_toArray, List.set_cons_zero, List.set_cons_succ]
              refine wpAnyH_done (by kernel_rfl) ?_ _
              go_wp2_with fail
              go_meet
              refine ⟨_, _, _, _, rfl, rfl, rfl, rfl, Lib.hid (hd_at HMC.out hn (by first | exact ch4 _ _ _ _ _ _ | exact ch3 _ _ _ _ _ _ | exact ch2 _ _ _ _ _ _ | exact ch1 _ _ _ _ _ _) (by first | exact ch4 _ _ _ _ _ _ | exact ch3 _ _ _ _ _ _ | exact ch2 _ _ _ _ _ _ | exact ch1 _ _ _ _ _ _) (by first | exact ch4 _ _ _ _ _ _ | exact ch3 _ _ _ _ _ _ | exact ch2 _ _ _ _ _ _ | exact ch1 _ _ _ _ _ _) (by first | exact ch4 _ _ _ _ _ _ | exact ch3 _ _ _ _ _ _ | exact ch2 _ _ _ _ _ _ | exact ch1 _ _ _ _ _ _) ⟨by omega, by omega, by omega, by omega, by omega⟩ (below5 w _ _ _ _ _)), by omega, Lib.hid (ch0 _ _ _ _ _ _)⟩
            exact AllReadyH.nil
          exact AllReadyH.nil
        refine readyN rfl (fun K hK => ?_) ?_
        · -- operation 4
          go_simp
          refine hK.out _ _ ?_ (fun hHeld3 => ?_)
          · dsimp only
          clear hK K hHeld2
          try simp only [Act.put, List.setIfInBounds_toArray, List.set_cons_zero, List.set_cons_succ]
          refine wpAnyH_ready (rs := [1]) (by kernel_rfl) (by simp) ?_
          refine readyN rfl (fun K hK => ?_) ?_
          · -- operation 1
            go_simp
            refine hK.out _ _ ?_ (fun hHeld4 => ?_)
            · dsimp only
            clear hK K hHeld3
            try simp only [Act.put, List.setIfInBounds_toArray, List.set_cons_zero, List.set_cons_succ]
            refine takeN (v := ?_) 5 rfl (by kernel_rfl) (by kernel_rfl) (by kernel_rfl) (fun _ _ _ h => h) (by rfl) ?_ hHeld4 ?_
            rotate_left
            · intro w hSw; (try dsimp only at hSw); go_simp; with_reducible rfl
            try simp only [Act.put, List.setIfInBounds_toArray, List.set_cons_zero, List.set_cons_succ]
            refine wpAnyH_ready (rs := [7]) (by kernel_rfl) (by simp) ?_
            refine readyN rfl (fun K hK => ?_) ?_
            · -- operation 7
              go_simp
              refine hK.out _ _ ?_ (fun hHeld5 => ?_)
              · dsimp only
              clear hK K hHeld4
              try simp only [Act.put, List.setIfInBounds_toArray, List.set_cons_zero, List.set_cons_succ]
              refine wpAnyH_done (by kernel_rfl) ?_ _
              go_wp2_with fail
              go_meet
              refine ⟨_, _, _, _, rfl, rfl, rfl, rfl, Lib.hid (hd_at HMC.out hn (by first | exact ch4 _ _ _ _ _ _ | exact ch3 _ _ _ _ _ _ | exact ch2 _ _ _ _ _ _ | exact ch1 _ _ _ _ _ _) (by first | exact ch4 _ _ _ _ _ _ | exact ch3 _ _ _ _ _ _ | exact ch2 _ _ _ _ _ _ | exact ch1 _ _ _ _ _ _) (by first | exact ch4 _ _ _ _ _ _ | exact ch3 _ _ _ _ _ _ | exact ch2 _ _ _ _ _ _ | exact ch1 _ _ _ _ _ _) (by first | exact ch4 _ _ _ _ _ _ | exact ch3 _ _ _ _ _ _ | exact ch2 _ _ _ _ _ _ | exact ch1 _ _ _ _ _ _) ⟨by omega, by omega, by omega, by omega, by omega⟩ (below5 w _ _ _ _ _)), by omega, Lib.hid (ch0 _ _ _ _ _ _)⟩
            exact AllReadyH.nil
          exact AllReadyH.nil
        exact AllReadyH.nil
      exact AllReadyH.nil
    refine readyN rfl (fun K hK => ?_) ?_
    · -- operation 4
      go_simp
      refine hK.out _ _ ?_ (fun hHeld1 => ?_)
      · dsimp only
      clear hK K hHeld0
      try simp only [Act.put, List.setIfInBounds_toArray, List.set_cons_zero, List.set_cons_succ]
      refine wpAnyH_ready (rs := [1, 3, 6]) (by kernel_rfl) (by simp) ?_
      refine readyN rfl (fun K hK => ?_) ?_
      · -- operation 1
        go_simp
        refine hK.out _ _ ?_ (fun hHeld2 => ?_)
        · dsimp only
        clear hK K hHeld1
        try simp only [Act.put, List.setIfInBounds_toArray, List.set_cons_zero, List.set_cons_succ]
        refine wpAnyH_ready (rs := [3, 6]) (by kernel_rfl) (by simp) ?_
        refine readyN rfl (fun K hK => ?_) ?_
        · -- operation 3
          go_simp
          refine hK.out _ _ ?_ (fun hHeld3 => ?_)
          · dsimp only
          clear hK K hHeld2
          try simp only [Act.put, List.setIfInBounds_toArray, List.set_cons_zero, List.set_cons_succ]
          refine takeN (v := ?_) 5 rfl (by kernel_rfl) (by kernel_rfl) (by kernel_rfl) (fun _ _ _ h => h) (by rfl) ?_ hHeld3 ?_
          rotate_left
          · intro w hSw; (try dsimp only at hSw); go_simp; with_reducible rfl
          try simp only [Act.put, List.setIfInBounds_toArray, List.set_cons_zero, List.set_cons_succ]
          refine wpAnyH_ready (rs := [6]) (by kernel_rfl) (by simp) ?_
          refine readyN rfl (fun K hK => ?_) ?_
          · -- operation 6
            go_simp
            refine hK.out _ _ ?_ (fun hHeld4 => ?_)
            · dsimp only
            clear hK K hHeld3
            try simp only [Act.put, List.setIfInBounds_toArray, List.set_cons_zero, List.set_cons_succ]
            refine wpAnyH_ready (rs := [7]) (by kernel_rfl) (by simp) ?_
            refine readyN rfl (fun K hK => ?_) ?_
            · -- operation 7
              go_simp
              refine hK.out _ _ ?_ (fun hHeld5 => ?_)
              · dsimp only
              clear hK K hHeld4
              try simp only [Act.put, List.setIfInBounds_toArray, List.set_cons_zero, List.set_cons_succ]
              refine wpAnyH_done (by kernel_rfl) ?_ _
              go_wp2_with fail
              go_meet
              refine ⟨_, _, _, _, rfl, rfl, rfl, rfl, Lib.hid (hd_at HMC.out hn (by first | exact ch4 _ _ _ _ _ _ | exact ch3 _ _ _ _ _ _ | exact ch2 _ _ _ _ _ _ | exact ch1 _ _ _ _ _ _) (by first | exact ch4 _ _ _ _ _ _ | exact ch3 _ _ _ _ _ _ | exact ch2 _ _ _ _ _ _ | exact ch1 _ _ _ _ _ _) (by first | exact ch4 _ _ _ _ _ _ | exact ch3 _ _ _ _ _ _ | exact ch2 _ _ _ _ _ _ | exact ch1 _ _ _ _ _ _) (by first | exact ch4 _ _ _ _ _ _ | exact ch3 _ _ _ _ _ _ | exact ch2 _ _ _ _ _ _ | exact ch1 _ _ _ _ _ _) ⟨by omega, by omega, by omega, by omega, by omega⟩ (below5 w _ _ _ _ _)), by omega, Lib.hid (ch0 _ _ _ _ _ _)⟩
            exact AllReadyH.nil
          exact AllReadyH.nil
        refine readyN rfl (fun K hK => ?_) ?_
        · -- operation 6
          go_simp
          refine hK.out _ _ ?_ (fun hHeld3 => ?_)
          · dsimp only
          clear hK K hHeld2
          try simp only [Act.put, List.setIfInBounds_toArray, List.set_cons_zero, List.set_cons_succ]
          refine wpAnyH_ready (rs := [3]) (by kernel_rfl) (by simp) ?_
          refine readyN rfl (fun K hK => ?_) ?_
          · -- operation 3
            go_simp
            refine hK.out _ _ ?_ (fun hHeld4 => ?_)
            · dsimp only
            clear hK K hHeld3
            try simp only [Act.put, List.setIfInBounds_toArray, List.set_cons_zero, List.set_cons_succ]
            refine takeN (v := ?_) 5 rfl (by kernel_rfl) (by kernel_rfl) (by kernel_rfl) (fun _ _ _ h => h) (by rfl) ?_ hHeld4 ?_
            rotate_left
            · intro w hSw; (try dsimp only at hSw); go_simp; with_reducible rfl
            try simp only [Act.put, List.setIfInBounds_toArray, List.set_cons_zero, List.set_cons_succ]
            refine wpAnyH_ready (rs := [7]) (by kernel_rfl) (by simp) ?_
            refine readyN rfl (fun K hK => ?_) ?_
            · -- operation 7
              go_simp
              refine hK.out _ _ ?_ (fun hHeld5 => ?_)
              · dsimp only
              clear hK K hHeld4
              try simp only [Act.put, List.setIfInBounds_toArray, List.set_cons_zero, List.set_cons_succ]
              refine wpAnyH_done (by kernel_rfl) ?_ _
              go_wp2_with fail
              go_meet
              refine ⟨_, _, _, _, rfl, rfl, rfl, rfl, Lib.hid (hd_at HMC.out hn (by first | exact ch4 _ _ _ _ _ _ | exact ch3 _ _ _ _ _ _ | exact ch2 _ _ _ _ _ _ | exact ch1 _ _ _ _ _ _) (by first | exact ch4 _ _ _ _ _ _ | exact ch3 _ _ _ _ _ _ | exact ch2 _ _ _ _ _ _ | exact ch1 _ _ _ _ _ _) (by first | exact ch4 _ _ _ _ _ _ | exact ch3 _ _ _ _ _ _ | exact ch2 _ _ _ _ _ _ | exact ch1 _ _ _ _ _ _) (by first | exact ch4 _ _ _ _ _ _ | exact ch3 _ _ _ _ _ _ | exact ch2 _ _ _ _ _ _ | exact ch1 _ _ _ _ _ _) ⟨by omega, by omega, by omega, by omega, by omega⟩ (below5 w _ _ _ _ _)), by omega, Lib.hid (ch0 _ _ _ _ _ _)⟩
            exact AllReadyH.nil
          exact AllReadyH.nil
        exact AllReadyH.nil
      refine readyN rfl (fun K hK => ?_) ?_
      · -- operation 3
        go_simp
        refine hK.out _ _ ?_ (fun hHeld2 => ?_)
        · dsimp only
        clear hK K hHeld1
        try simp only [Act.put, List.setIfInBounds_toArray, List.set_cons_zero, List.set_cons_succ]
        refine wpAnyH_ready (rs := [1, 6]) (by kernel_rfl) (by simp) ?_
        refine readyN rfl (fun K hK => ?_) ?_
        · -- operation 1
          go_simp
          refine hK.out _ _ ?_ (fun hHeld3 => ?_)
          · dsimp only
          clear hK K hHeld2
          try simp only [Act.put, List.setIfInBounds_toArray, List.set_cons_zero, List.set_cons_succ]
          refine takeN (v := ?_) 5 rfl (by kernel_rfl) (by kernel_rfl) (by kernel_rfl) (fun _ _ _ h => h) (by rfl) ?_ hHeld3 ?_
          rotate_left
          · intro w hSw; (try dsimp only at hSw); go_simp; with_reducible rfl
          try simp only [Act.put, List.setIfInBounds_toArray, List.set_cons_zero, List.set_cons_succ]
          refine wpAnyH_ready (rs := [6]) (by kernel_rfl) (by simp) ?_
          refine readyN rfl (fun K hK => ?_) ?_
          · -- operation 6
            go_simp
            refine hK.out _ _ ?_ (fun hHeld4 => ?_)
            · dsimp only
            clear hK K hHeld3
            try simp only [Act.put, List.setIfInBounds_toArray, List.set_cons_zero, List.set_cons_succ]
            refine wpAnyH_ready (rs := [7]) (by kernel_rfl) (by simp) ?_
            refine readyN rfl (fun K hK => ?_) ?_
            · -- operation 7
              go_simp
              refine hK.out _ _ ?_ (fun hHeld5 => ?_)
              · dsimp only
              clear hK K hHeld4
              try simp only [Act.put, List.setIfInBounds_toArray, List.set_cons_zero, List.set_cons_succ]
              refine wpAnyH_done (by kernel_rfl) ?_ _
              go_wp2_with fail
              go_meet
              refine ⟨_, _, _, _, rfl, rfl, rfl, rfl, Lib.hid (hd_at HMC.out hn (by first | exact ch4 _ _ _ _ _ _ | exact ch3 _ _ _ _ _ _ | exact ch2 _ _ _ _ _ _ | exact ch1 _ _ _ _ _ _) (by first | exact ch4 _ _ _ _ _ _ | exact ch3 _ _ _ _ _ _ | exact ch2 _ _ _ _ _ _ | exact ch1 _ _ _ _ _ _) (by first | exact ch4 _ _ _ _ _ _ | exact ch3 _ _ _ _ _ _ | exact ch2 _ _ _ _ _ _ | exact ch1 _ _ _ _ _ _) (by first | exact ch4 _ _ _ _ _ _ | exact ch3 _ _ _ _ _ _ | exact ch2 _ _ _ _ _ _ | exact ch1 _ _ _ _ _ _) ⟨by omega, by omega, by omega, by omega, by omega⟩ (below5 w _ _ _ _ _)), by omega, Lib.hid (ch0 _ _ _ _ _ _)⟩
            exact AllReadyH.nil
          exact AllReadyH.nil
        refine readyN rfl (fun K hK => ?_) ?_
        · -- operation 6
          go_simp
          refine hK.out _ _ ?_ (fun hHeld3 => ?_)
          · dsimp only
          clear hK K hHeld2
          try simp only [Act.put, List.setIfInBounds_toArray, List.set_cons_zero, List.set_cons_succ]
          refine wpAnyH_ready (rs := [1]) (by kernel_rfl) (by simp) ?_
          refine readyN rfl (fun K hK => ?_) ?_
          · -- operation 1
            go_simp
            refine hK.out _ _ ?_ (fun hHeld4 => ?_)
            · dsimp only
            clear hK K hHeld3
            try simp only [Act.put, List.setIfInBounds_toArray, List.set_cons_zero, List.set_cons_succ]
            refine takeN (v := ?_) 5 rfl (by kernel_rfl) (by kernel_rfl) (by kernel_rfl) (fun _ _ _ h => h) (by rfl) ?_ hHeld4 ?_
            rotate_left
            · intro w hSw; (try dsimp only at hSw); go_simp; with_reducible rfl
            try simp only [Act.put, List.setIfInBounds_toArray, List.set_cons_zero, List.set_cons_succ]
            refine wpAnyH_ready (rs := [7]) (by kernel_rfl) (by simp) ?_
            refine readyN rfl (fun K hK => ?_) ?_
            · -- operation 7
              go_simp
              refine hK.out _ _ ?_ (fun hHeld5 => ?_)
              · dsimp only
              clear hK K hHeld4
              try simp only [Act.put, List.setIfInBounds_toArray, List.set_cons_zero, List.set_cons_succ]
              refine wpAnyH_done (by kernel_rfl) ?_ _
              go_wp2_with fail
              go_meet
              refine ⟨_, _, _, _, rfl, rfl, rfl, rfl, Lib.hid (hd_at HMC.out hn (by first | exact ch4 _ _ _ _ _ _ | exact ch3 _ _ _ _ _ _ | exact ch2 _ _ _ _ _ _ | exact ch1 _ _ _ _ _ _) (by first | exact ch4 _ _ _ _ _ _ | exact ch3 _ _ _ _ _ _ | exact ch2 _ _ _ _ _ _ | exact ch1 _ _ _ _ _ _) (by first | exact ch4 _ _ _ _ _ _ | exact ch3 _ _ _ _ _ _ | exact ch2 _ _ _ _ _ _ | exact ch1 _ _ _ _ _ _) (by first | exact ch4 _ _ _ _ _ _ | exact ch3 _ _ _ _ _ _ | exact ch2 _ _ _ _ _ _ | exact ch1 _ _ _ _ _ _) ⟨by omega, by omega, by omega, by omega, by omega⟩ (below5 w _ _ _ _ _)), by omega, Lib.hid (ch0 _ _ _ _ _ _)⟩
            exact AllReadyH.nil
          exact AllReadyH.nil
        exact AllReadyH.nil
      refine readyN rfl (fun K hK => ?_) ?_
      · -- operation 6
        go_simp
        refine hK.out _ _ ?_ (fun hHeld2 => ?_)
        · dsimp only
        clear hK K hHeld1
        try simp only [Act.put, List.setIfInBounds_toArray, List.set_cons_zero, List.set_cons_succ]
        refine wpAnyH_ready (rs := [1, 3]) (by kernel_rfl) (by simp) ?_
        refine readyN rfl (fun K hK => ?_) ?_
        · -- operation 1
          go_simp
          refine hK.out _ _ ?_ (fun hHeld3 => ?_)
          · dsimp only
          clear hK K hHeld2
          try simp only [Act.put, List.setIfInBounds_toArray, List.set_cons_zero, List.set_cons_succ]
          refine wpAnyH_ready (rs := [3]) (by kernel_rfl) (by simp) ?_
          refine readyN rfl (fun K hK => ?_) ?_
          · -- operation 3
            go_simp
            refine hK.out _ _ ?_ (fun hHeld4 => ?_)
            · dsimp only
            clear hK K hHeld3
            try simp only [Act.put, List.setIfInBounds_toArray, List.set_cons_zero, List.set_cons_succ]
            refine takeN (v := ?_) 5 rfl (by kernel_rfl) (by kernel_rfl) (by kernel_rfl) (fun _ _ _ h => h) (by rfl) ?_ hHeld4 ?_
            rotate_left
            · intro w hSw; (try dsimp only at hSw); go_simp; with_reducible rfl
            try simp only [Act.put, List.setIfInBounds_toArray, List.set_cons_zero, List.set_cons_succ]
            refine wpAnyH_ready (rs := [7]) (by kernel_rfl) (by simp) ?_
            refine readyN rfl (fun K hK => ?_) ?_
            · -- operation 7
              go_simp
              refine hK.out _ _ ?_ (fun hHeld5 => ?_)
              · dsimp only
              clear hK K hHeld4
              try simp only [Act.put, List.setIfInBounds_toArray, List.set_cons_zero, List.set_cons_succ]
              refine wpAnyH_done (by kernel_rfl) ?_ _
              go_wp2_with fail
              go_meet
              refine ⟨_, _, _, _, rfl, rfl, rfl, rfl, Lib.hid (hd_at HMC.out hn (by first | exact ch4 _ _ _ _ _ _ | exact ch3 _ _ _ _ _ _ | exact ch2 _ _ _ _ _ _ | exact ch1 _ _ _ _ _ _) (by first | exact ch4 _ _ _ _ _ _ | exact ch3 _ _ _ _ _ _ | exact ch2 _ _ _ _ _ _ | exact ch1 _ _ _ _ _ _) (by first | exact ch4 _ _ _ _ _ _ | exact ch3 _ _ _ _ _ _ | exact ch2 _ _ _ _ _ _ | exact ch1 _ _ _ _ _ _) (by first | exact ch4 _ _ _ _ _ _ | exact ch3 _ _ _ _ _ _ | exact ch2 _ _ _ _ _ _ | exact ch1 _ _ _ _ _ _) ⟨by omega, by omega, by omega, by omega, by omega⟩ (below5 w _ _ _ _ _)), by omega, Lib.hid (ch0 _ _ _ _ _ _)⟩
            exact AllReadyH.nil
          exact AllReadyH.nil
        refine readyN rfl (fun K hK => ?_) ?_
        · -- operation 3
          go_simp
          refine hK.out _ _ ?_ (fun hHeld3 => ?_)
          · dsimp only
          clear hK K hHeld2
          try simp only [Act.put, List.setIfInBounds_toArray, List.set_cons_zero, List.set_cons_succ]
          refine wpAnyH_ready (rs := [1]) (by kernel_rfl) (by simp) ?_
          refine readyN rfl (fun K hK => ?_) ?_
          · -- operation 1
            go_simp
            refine hK.out _ _ ?_ (fun hHeld4 => ?_)
            · dsimp only
            clear hK K hHeld3
            try simp only [Act.put, List.setIfInBounds_toArray, List.set_cons_zero, List.set_cons_succ]
            refine takeN (v := ?_) 5 rfl (by kernel_rfl) (by kernel_rfl) (by kernel_rfl) (fun _ _ _ h => h) (by rfl) ?_ hHeld4 ?_
            rotate_left
            · intro w hSw; (try dsimp only at hSw); go_simp; with_reducible rfl
            try simp only [Act.put, List.setIfInBounds_toArray, List.set_cons_zero, List.set_cons_succ]
            refine wpAnyH_ready (rs := [7]) (by kernel_rfl) (by simp) ?_
            refine readyN rfl (fun K hK => ?_) ?_
            · -- operation 7
              go_simp
              refine hK.out _ _ ?_ (fun hHeld5 => ?_)
              · dsimp only
              clear hK K hHeld4
              try simp only [Act.put, List.setIfInBounds_toArray, List.set_cons_zero, List.set_cons_succ]
              refine wpAnyH_done (by kernel_rfl) ?_ _
              go_wp2_with fail
              go_meet
              refine ⟨_, _, _, _, rfl, rfl, rfl, rfl, Lib.hid (hd_at HMC.out hn (by first | exact ch4 _ _ _ _ _ _ | exact ch3 _ _ _ _ _ _ | exact ch2 _ _ _ _ _ _ | exact ch1 _ _ _ _ _ _) (by first | exact ch4 _ _ _ _ _ _ | exact ch3 _ _ _ _ _ _ | exact ch2 _ _ _ _ _ _ | exact ch1 _ _ _ _ _ _) (by first | exact ch4 _ _ _ _ _ _ | exact ch3 _ _ _ _ _ _ | exact ch2 _ _ _ _ _ _ | exact ch1 _ _ _ _ _ _) (by first | exact ch4 _ _ _ _ _ _ | exact ch3 _ _ _ _ _ _ | exact ch2 _ _ _ _ _ _ | exact ch1 _ _ _ _ _ _) ⟨by omega, by omega, by omega, by omega, by omega⟩ (below5 w _ _ _ _ _)), by omega, Lib.hid (ch0 _ _ _ _ _ _)⟩
            exact AllReadyH.nil
          exact AllReadyH.nil
        exact AllReadyH.nil
      exact AllReadyH.nil
    refine readyN rfl (fun K hK => ?_) ?_
    · -- operation 6
      go_simp
      refine hK.out _ _ ?_ (fun hHeld1 => ?_)
      · dsimp only
      clear hK K hHeld0
      try simp only [Act.put, List.setIfInBounds_toArray, List.set_cons_zero, List.set_cons_succ]
      refine wpAnyH_ready (rs := [1, 3, 4]) (by kernel_rfl) (by simp) ?_
      refine readyN rfl (fun K hK => ?_) ?_
      · -- operation 1
        go_simp
        refine hK.out _ _ ?_ (fun hHeld2 => ?_)
        · dsimp only
        clear hK K hHeld1
        try simp only [Act.put, List.setIfInBounds_toArray, List.set_cons_zero, List.set_cons_succ]
        refine wpAnyH_ready (rs := [3, 4]) (by kernel_rfl) (by simp) ?_
        refine readyN rfl (fun K hK => ?_) ?_
        · -- operation 3
          go_simp
          refine hK.out _ _ ?_ (fun hHeld3 => ?_)
          · dsimp only
          clear hK K hHeld2
          try simp only [Act.put, List.setIfInBounds_toArray, List.set_cons_zero, List.set_cons_succ]
          refine wpAnyH_ready (rs := [4]) (by kernel_rfl) (by simp) ?_
          refine readyN rfl (fun K hK => ?_) ?_
          · -- operation 4
            go_simp
            refine hK.out _ _ ?_ (fun hHeld4 => ?_)
            · dsimp only
            clear hK K hHeld3
            try simp only [Act.put, List.setIfInBounds_toArray, List.set_cons_zero, List.set_cons_succ]
            refine takeN (v := ?_) 5 rfl (by kernel_rfl) (by kernel_rfl) (by kernel_rfl) (fun _ _ _ h => h) (by rfl) ?_ hHeld4 ?_
            rotate_left
            · intro w hSw; (try dsimp only at hSw); go_simp; with_reducible rfl
            try simp only [Act.put, List.setIfInBounds_toArray, List.set_cons_zero, List.set_cons_succ]
            refine wpAnyH_ready (rs := [7]) (by kernel_rfl) (by simp) ?_
            refine readyN rfl (fun K hK => ?_) ?_
            · -- operation 7
              go_simp
              refine hK.out _ _ ?_ (fun hHeld5 => ?_)
              · dsimp only
              clear hK K hHeld4
              try simp only [Act.put, List.setIfInBounds_toArray, List.set_cons_zero, List.set_cons_succ]
              refine wpAnyH_done (by kernel_rfl) ?_ _
              go_wp2_with fail
              go_meet
              refine ⟨_, _, _, _, rfl, rfl, rfl, rfl, Lib.hid (hd_at HMC.out hn (by first | exact ch4 _ _ _ _ _ _ | exact ch3 _ _ _ _ _ _ | exact ch2 _ _ _ _ _ _ | exact ch1 _ _ _ _ _ _) (by first | exact ch4 _ _ _ _ _ _ | exact ch3 _ _ _ _ _ _ | exact ch2 _ _ _ _ _ _ | exact ch1 _ _ _ _ _ _) (by first | exact ch4 _ _ _ _ _ _ | exact ch3 _ _ _ _ _ _ | exact ch2 _ _ _ _ _ _ | exact ch1 _ _ _ _ _ _) (by first | exact ch4 _ _ _ _ _ _ | exact ch3 _ _ _ _ _ _ | exact ch2 _ _ _ _ _ _ | exact ch1 _ _ _ _ _ _) ⟨by omega, by omega, by omega, by omega, by omega⟩ (below5 w _ _ _ _ _)), by omega, Lib.hid (ch0 _ _ _ _ _ _)⟩
            exact AllReadyH.nil
          exact AllReadyH.nil
        refine readyN rfl (fun K hK => ?_) ?_
        · -- operation 4
          go_simp
          refine hK.out _ _ ?_ (fun hHeld3 => ?_)
          · dsimp only
          clear hK K hHeld2
          try simp only [Act.put, List.setIfInBounds_toArray, List.set_cons_zero, List.set_cons_succ]
          refine wpAnyH_ready (rs := [3]) (by kernel_rfl) (by simp) ?_
          refine readyN rfl (fun K hK => ?_) ?_
          · -- operation 3
            go_simp
            refine hK.out _ _ ?_ (fun hHeld4 => ?_)
            · dsimp only
            clear hK K hHeld3
            try simp only [Act.put, List.setIfInBounds_toArray, List.set_cons_zero, List.set_cons_succ]
            refine takeN (v := ?_) 5 rfl (by kernel_rfl) (by kernel_rfl) (by kernel_rfl) (fun _ _ _ h => h) (by rfl) ?_ hHeld4 ?_
            rotate_left
            · intro w hSw; (try dsimp only at hSw); go_simp; with_reducible rfl
            try simp only [Act.put, List.setIfInBounds_toArray, List.set_cons_zero, List.set_cons_succ]
            refine wpAnyH_ready (rs := [7]) (by kernel_rfl) (by simp) ?_
            refine readyN rfl (fun K hK => ?_) ?_
            · -- operation 7
              go_simp
              refine hK.out _ _ ?_ (fun hHeld5 => ?_)
              · dsimp only
              clear hK K hHeld4
              try simp only [Act.put, List.setIfInBounds_toArray, List.set_cons_zero, List.set_cons_succ]
              refine wpAnyH_done (by kernel_rfl) ?_ _
              go_wp2_with fail
              go_meet
              refine ⟨_, _, _, _, rfl, rfl, rfl, rfl, Lib.hid (hd_at HMC.out hn (by first | exact ch4 _ _ _ _ _ _ | exact ch3 _ _ _ _ _ _ | exact ch2 _ _ _ _ _ _ | exact ch1 _ _ _ _ _ _) (by first | exact ch4 _ _ _ _ _ _ | exact ch3 _ _ _ _ _ _ | exact ch2 _ _ _ _ _ _ | exact ch1 _ _ _ _ _ _) (by first | exact ch4 _ _ _ _ _ _ | exact ch3 _ _ _ _ _ _ | exact ch2 _ _ _ _ _ _ | exact ch1 _ _ _ _ _ _) (by first | exact ch4 _ _ _ _ _ _ | exact ch3 _ _ _ _ _ _ | exact ch2 _ _ _ _ _ _ | exact ch1 _ _ _ _ _ _) ⟨by omega, by omega, by omega, by omega, by omega⟩ (below5 w _ _ _ _ _)), by omega, Lib.hid (ch0 _ _ _ _ _ _)⟩
            exact AllReadyH.nil
          exact AllReadyH.nil
        exact AllReadyH.nil
      refine readyN rfl (fun K hK => ?_) ?_
      · -- operation 3
        go_simp
        refine hK.out _ _ ?_ (fun hHeld2 => ?_)
        · dsimp only
        clear hK K hHeld1
        try simp only [Act.put, List.setIfInBounds_toArray, List.set_cons_zero, List.set_cons_succ]
        refine wpAnyH_ready (rs := [1, 4]) (by kernel_rfl) (by simp) ?_
        refine readyN rfl (fun K hK => ?_) ?_
        · -- operation 1
          go_simp
          refine hK.out _ _ ?_ (fun hHeld3 => ?_)
          · dsimp only
          clear hK K hHeld2
          try simp only [Act.put, List.setIfInBounds_toArray, List.set_cons_zero, List.set_cons_succ]
          refine wpAnyH_ready (rs := [4]) (by kernel_rfl) (by simp) ?_
          refine readyN rfl (fun K hK => ?_) ?_
          · -- operation 4
            go_simp
            refine hK.out _ _ ?_ (fun hHeld4 => ?_)
            · dsimp only
            clear hK K hHeld3
            try simp only [Act.put, List.setIfInBounds_toArray, List.set_cons_zero, List.set_cons_succ]
            refine takeN (v := ?_) 5 rfl (by kernel_rfl) (by kernel_rfl) (by kernel_rfl) (fun _ _ _ h => h) (by rfl) ?_ hHeld4 ?_
            rotate_left
            · intro w hSw; (try dsimp only at hSw); go_simp; with_reducible rfl
            try simp only [Act.put, List.setIfInBounds_toArray, List.set_cons_zero, List.set_cons_succ]
            refine wpAnyH_ready (rs := [7]) (by kernel_rfl) (by simp) ?_
            refine readyN rfl (fun K hK => ?_) ?_
            · -- operation 7
              go_simp
              refine hK.out _ _ ?_ (fun hHeld5 => ?_)
              · dsimp only
              clear hK K hHeld4
              try simp only [Act.put, List.setIfInBounds_toArray, List.set_cons_zero, List.set_cons_succ]
              refine wpAnyH_done (by kernel_rfl) ?_ _
              go_wp2_with fail
              go_meet
              refine ⟨_, _, _, _, rfl, rfl, rfl, rfl, Lib.hid (hd_at HMC.out hn (by first | exact ch4 _ _ _ _ _ _ | exact ch3 _ _ _ _ _ _ | exact ch2 _ _ _ _ _ _ | exact ch1 _ _ _ _ _ _) (by first | exact ch4 _ _ _ _ _ _ | exact ch3 _ _ _ _ _ _ | exact ch2 _ _ _ _ _ _ | exact ch1 _ _ _ _ _ _) (by first | exact ch4 _ _ _ _ _ _ | exact ch3 _ _ _ _ _ _ | exact ch2 _ _ _ _ _ _ | exact ch1 _ _ _ _ _ _) (by first | exact ch4 _ _ _ _ _ _ | exact ch3 _ _ _ _ _ _ | exact ch2 _ _ _ _ _ _ | exact ch1 _ _ _ _ _ _) ⟨by omega, by omega, by omega, by omega, by omega⟩ (below5 w _ _ _ _ _)), by omega, Lib.hid (ch0 _ _ _ _ _ _)⟩
            exact AllReadyH.nil
          exact AllReadyH.nil
        refine readyN rfl (fun K hK => ?_) ?_
        · -- operation 4
          go_simp
          refine hK.out _ _ ?_ (fun hHeld3 => ?_)
          · dsimp only
          clear hK K hHeld2
          try simp only [Act.put, List.setIfInBounds_toArray, List.set_cons_zero, List.set_cons_succ]
          refine wpAnyH_ready (rs := [1]) (by kernel_rfl) (by simp) ?_
          refine readyN rfl (fun K hK => ?_) ?_
          · -- operation 1
            go_simp
            refine hK.out _ _ ?_ (fun hHeld4 => ?_)
            · dsimp only
            clear hK K hHeld3
            try simp only [Act.put, List.setIfInBounds_toArray, List.set_cons_zero, List.set_cons_succ]
            refine takeN (v := ?_) 5 rfl (by kernel_rfl) (by kernel_rfl) (by kernel_rfl) (fun _ _ _ h => h) (by rfl) ?_ hHeld4 ?_
            rotate_left
            · intro w hSw; (try dsimp only at hSw); go_simp; with_reducible rfl
            try simp only [Act.put, List.setIfInBounds_toArray, List.set_cons_zero, List.set_cons_succ]
            refine wpAnyH_ready (rs := [7]) (by kernel_rfl) (by simp) ?_
            refine readyN rfl (fun K hK => ?_) ?_
            · -- operation 7
              go_simp
              refine hK.out _ _ ?_ (fun hHeld5 => ?_)
              · dsimp only
              clear hK K hHeld4
              try simp only [Act.put, List.setIfInBounds_toArray, List.set_cons_zero, List.set_cons_succ]
              refine wpAnyH_done (by kernel_rfl) ?_ _
              go_wp2_with fail
              go_meet
              refine ⟨_, _, _, _, rfl, rfl, rfl, rfl, Lib.hid (hd_at HMC.out hn (by first | exact ch4 _ _ _ _ _ _ | exact ch3 _ _ _ _ _ _ | exact ch2 _ _ _ _ _ _ | exact ch1 _ _ _ _ _ _) (by first | exact ch4 _ _ _ _ _ _ | exact ch3 _ _ _ _ _ _ | exact ch2 _ _ _ _ _ _ | exact ch1 _ _ _ _ _ _) (by first | exact ch4 _ _ _ _ _ _ | exact ch3 _ _ _ _ _ _ | exact ch2 _ _ _ _ _ _ | exact ch1 _ _ _ _ _ _) (by first | exact ch4 _ _ _ _ _ _ | exact ch3 _ _ _ _ _ _ | exact ch2 _ _ _ _ _ _ | exact ch1 _ _ _ _ _ _) ⟨by omega, by omega, by omega, by omega, by omega⟩ (below5 w _ _ _ _ _)), by omega, Lib.hid (ch0 _ _ _ _ _ _)⟩
            exact AllReadyH.nil
          exact AllReadyH.nil
        exact AllReadyH.nil
      refine readyN rfl (fun K hK => ?_) ?_
      · -- operation 4
        go_simp
        refine hK.out _ _ ?_ (fun hHeld2 => ?_)
        · dsimp only
        clear hK K hHeld1
        try simp only [Act.put, List.setIfInBounds_toArray, List.set_cons_zero, List.set_cons_succ]
        refine wpAnyH_ready (rs := [1, 3]) (by kernel_rfl) (by simp) ?_
        refine readyN rfl (fun K hK => ?_) ?_
        · -- operation 1
          go_simp
          refine hK.out _ _ ?_ (fun hHeld3 => ?_)
          · dsimp only
          clear hK K hHeld2
          try simp only [Act.put, List.setIfInBounds_toArray, List.set_cons_zero, List.set_cons_succ]
          refine wpAnyH_ready (rs := [3]) (by kernel_rfl) (by simp) ?_
          refine readyN rfl (fun K hK => ?_) ?_
          · -- operation 3
            go_simp
            refine hK.out _ _ ?_ (fun hHeld4 => ?_)
            · dsimp only
            clear hK K hHeld3
            try simp only [Act.put, List.setIfInBounds_toArray, List.set_cons_zero, List.set_cons_succ]
            refine takeN (v := ?_) 5 rfl (by kernel_rfl) (by kernel_rfl) (by kernel_rfl) (fun _ _ _ h => h) (by rfl) ?_ hHeld4 ?_
            rotate_left
            · intro w hSw; (try dsimp only at hSw); go_simp; with_reducible rfl
            try simp only [Act.put, List.setIfInBounds_toArray, List.set_cons_zero, List.set_cons_succ]
            refine wpAnyH_ready (rs := [7]) (by kernel_rfl) (by simp) ?_
            refine readyN rfl (fun K hK => ?_) ?_
            · -- operation 7
              go_simp
              refine hK.out _ _ ?_ (fun hHeld5 => ?_)
              · dsimp only
              clear hK K hHeld4
              try simp only [Act.put, List.setIfInBounds_toArray, List.set_cons_zero, List.set_cons_succ]
              refine wpAnyH_done (by kernel_rfl) ?_ _
              go_wp2_with fail
              go_meet
              refine ⟨_, _, _, _, rfl, rfl, rfl, rfl, Lib.hid (hd_at HMC.out hn (by first | exact ch4 _ _ _ _ _ _ | exact ch3 _ _ _ _ _ _ | exact ch2 _ _ _ _ _ _ | exact ch1 _ _ _ _ _ _) (by first | exact ch4 _ _ _ _ _ _ | exact ch3 _ _ _ _ _ _ | exact ch2 _ _ _ _ _ _ | exact ch1 _ _ _ _ _ _) (by first | exact ch4 _ _ _ _ _ _ | exact ch3 _ _ _ _ _ _ | exact ch2 _ _ _ _ _ _ | exact ch1 _ _ _ _ _ _) (by first | exact ch4 _ _ _ _ _ _ | exact ch3 _ _ _ _ _ _ | exact ch2 _ _ _ _ _ _ | exact ch1 _ _ _ _ _ _) ⟨by omega, by omega, by omega, by omega, by omega⟩ (below5 w _ _ _ _ _)), by omega, Lib.hid (ch0 _ _ _ _ _ _)⟩
            exact AllReadyH.nil
          exact AllReadyH.nil
        refine readyN rfl (fun K hK => ?_) ?_
        · -- operation 3
          go_simp
          refine hK.out _ _ ?_ (fun hHeld3 => ?_)
          · dsimp only
          clear hK K hHeld2
          try simp only [Act.put, List.setIfInBounds_toArray, List.set_cons_zero, List.set_cons_succ]
          refine wpAnyH_ready (rs := [1]) (by kernel_rfl) (by simp) ?_
          refine readyN rfl (fun K hK => ?_) ?_
          · -- operation 1
            go_simp
            refine hK.out _ _ ?_ (fun hHeld4 => ?_)
            · dsimp only
            clear hK K hHeld3
            try simp only [Act.put, List.setIfInBounds_toArray, List.set_cons_zero, List.set_cons_succ]
            refine takeN (v := ?_) 5 rfl (by kernel_rfl) (by kernel_rfl) (by kernel_rfl) (fun _ _ _ h => h) (by rfl) ?_ hHeld4 ?_
            rotate_left
            · intro w hSw; (try dsimp only at hSw); go_simp; with_reducible rfl
            try simp only [Act.put, List.setIfInBounds_toArray, List.set_cons_zero, List.set_cons_succ]
            refine wpAnyH_ready (rs := [7]) (by kernel_rfl) (by simp) ?_
            refine readyN rfl (fun K hK => ?_) ?_
            · -- operation 7
              go_simp
              refine hK.out _ _ ?_ (fun hHeld5 => ?_)
              · dsimp only
              clear hK K hHeld4
              try simp only [Act.put, List.setIfInBounds_toArray, List.set_cons_zero, List.set_cons_succ]
              refine wpAnyH_done (by kernel_rfl) ?_ _
              go_wp2_with fail
              go_meet
              refine ⟨_, _, _, _, rfl, rfl, rfl, rfl, Lib.hid (hd_at HMC.out hn (by first | exact ch4 _ _ _ _ _ _ | exact ch3 _ _ _ _ _ _ | exact ch2 _ _ _ _ _ _ | exact ch1 _ _ _ _ _ _) (by first | exact ch4 _ _ _ _ _ _ | exact ch3 _ _ _ _ _ _ | exact ch2 _ _ _ _ _ _ | exact ch1 _ _ _ _ _ _) (by first | exact ch4 _ _ _ _ _ _ | exact ch3 _ _ _ _ _ _ | exact ch2 _ _ _ _ _ _ | exact ch1 _ _ _ _ _ _) (by first | exact ch4 _ _ _ _ _ _ | exact ch3 _ _ _ _ _ _ | exact ch2 _ _ _ _ _ _ | exact ch1 _ _ _ _ _ _) ⟨by omega, by omega, by omega, by omega, by omega⟩ (below5 w _ _ _ _ _)), by omega, Lib.hid (ch0 _ _ _ _ _ _)⟩
            exact AllReadyH.nil
          exact AllReadyH.nil
        exact AllReadyH.nil
      exact AllReadyH.nil
    exact AllReadyH.nil
  case rest =>
    obtain ⟨b6, bt, bh, bf, rfl, rfl, rfl, rfl, HH, hne, HR⟩ := hcut
    have hBw := HH.out.2.2.2.2.2.2.2.2.2
    have HS := Lib.hid (hS.below hBw)
    have HSW := Lib.hid hS
    have HN := Lib.hid (new_r (.slice a b.size c) b wc HS.out (by omega))
    obtain ⟨sz, hsz⟩ : ∃ sz, sz = b.size := ⟨_, rfl⟩
    rw [← hsz] at HS HN hb ⊢
    have HSZ := Lib.hid hsz
    clear hS hsz hBw hmk hmm
    go_wp2_with fail
    refine HN.out.mono ?_
    rintro e w1 ⟨q, rfl, hq, hr, hbw⟩
    have B1 := Lib.hid hbw
    have hq1 : wc.heap.size ≤ q := hq
    have HU := Lib.hid (uint_r q ⟨b, false⟩ w1 hr)
    have hv0 := Rd.val_nonneg ⟨b, false⟩ 8
    rw [show Rd.val ⟨b, false⟩ 8 = rootB b from rfl] at HU hv0
    obtain ⟨root, hroot⟩ : ∃ root, root = rootB b := ⟨_, rfl⟩
    rw [← hroot] at HU hv0
    have HRT := Lib.hid hroot
    clear hr hbw hq hroot HN
    go_wp2_with fail
    refine HU.out.mono ?_
    rintro e w2 ⟨rfl, hr, hk⟩
    have B2 := Lib.hid (B1.out.trans (hk.below (B := wc.heap.size) B1.out.size (fun i hi => by subst hi; exact hq1)))
    have hk2 := Keep.ofBelow B2.out (fun _ => False)
    have hb6 := hk2.blk HH.out.1 (fun h => h)
    have hrb := hk2.blk HR.out (fun h => h)
    have HB6 := Lib.hid hb6
    have HRB := Lib.hid hrb
    have HS2 := Lib.hid (HS.out.below B2.out)
    have T2 := Lib.hid (HH.out.2.1.keep hk2 (fun h => h))
    have H2 := Lib.hid (HH.out.2.2.1.keep hk2 (fun h => h))
    have M2 := Lib.hid (HH.out.2.2.2.1.keep hk2 (fun h => h))
    have LW := Lib.hid HH.out.2.2.2.2
    have twn : IntKind.u64.wrap (n : Int) = n := by rw [IntKind.wrap_u64]; omega
    have e0 := blk_cell hb6 0
    have e1 := blk_cell hb6 1
    have e2 := blk_cell hb6 2
    have e3 := blk_cell hb6 3
    have e4 := blk_cell hb6 4
    have z0 := blk_cell hrb 0
    have z1 := blk_cell hrb 1
    have z2 := blk_cell hrb 2
    have z3 := blk_cell hrb 3
    have z4 := blk_cell hrb 4
    have f0 := blk_frozen hrb 0
    have f1 := blk_frozen hrb 1
    have f2 := blk_frozen hrb 2
    have f3 := blk_frozen hrb 3
    have f4 := blk_frozen hrb 4
    have g0 := blk_frozen hb6 0
    simp only [List.getElem?_toArray, List.getElem?_cons_zero, List.getElem?_cons_succ] at e0 e1 e2 e3 e4 z0 z1 z2 z3 z4
    clear hr hk hk2 hb6 hrb HH HR HU
    by_cases hok : sz = 8 + bitsN n ∧ root < n
    · obtain ⟨hok1, hok2⟩ := hok
      have i1 : (sz : Int) = 8 + ((n : Int) + 7) / 8 := by unfold bitsN at hok1; omega
      have HOK := Lib.hid (And.intro hok1 hok2)
      have hszn : sz = 8 + bitsN n := hok1
      have HSN := Lib.hid hszn
      have hlo : ∀ j, j < n → 8 + j / 8 < sz := fun j hj => by unfold bitsN at hok1; omega
      have HLO := Lib.hid hlo
      have twr : IntKind.i64.wrap root = root := by rw [IntKind.wrap_i64]; omega
      have i5 : decide ((n : Int) ≤ root) = false := by simp; omega
      clear hok1 hszn hlo
      go_upto_region 6 with fail
      clear i1
      go_wp2_with fail
      refine wp_gen' (fun W => Keep (fun i => i = b6) w2 W ∧ W.heap[b6]? = some (.cells #[.int .i64 root, .slice (some ⟨bt, 0, none⟩) n n, .slice (some ⟨bh, 0, none⟩) n n, .map (some bf), .bool false] 59 (0, 0))) ⟨(Keep.refl _ w2).setEq _ _, blk_setCell HB6.out 0 _⟩ ?_
      rintro W3 ⟨k3, q3⟩
      have n1 : bt ≠ b6 := fun e => by
        obtain ⟨cur, h1, _⟩ := T2.out
        rw [e, HB6.out] at h1; cases h1
      have n2 : bh ≠ b6 := fun e => by
        obtain ⟨cur, h1, _⟩ := H2.out
        rw [e, HB6.out] at h1; cases h1
      have n3 : bf ≠ b6 := fun e => by
        obtain ⟨es, cl, h1, _⟩ := M2.out
        rw [e, HB6.out] at h1; cases h1
      have n4 : bt ≠ w.heap.size := fun e => by
        obtain ⟨cur, h1, _⟩ := T2.out
        rw [e, HRB.out] at h1; cases h1
      have T3 := Lib.hid (show BR W3 bt n (decJ b n 0) by rw [decJ_zero]; exact T2.out.keep k3 n1)
      have K3 := Lib.hid k3
      have Q3 := Lib.hid q3
      have hvb : ∀ k, (Value.slice a sz c).ownBlock = some k → k < w.heap.size := fun k hk => by
        have h1 := HSW.out
        rw [← HSZ.out] at h1
        obtain ⟨bb, oo, ha, d⟩ := h1.at_ (i := 0) (by rw [← HSZ.out, HSN.out]; omega)
        rw [ha] at hk
        cases hk
        exact World.block_lt_of_cell? w _ (d 0 (by rw [← HSZ.out, HSN.out]; omega))
      have HVB := Lib.hid hvb
      have S3 := Lib.hid (HS2.out.keep' k3 (fun k hk e => by have := hvb k hk; have := LW.out.1; omega))
      clear k3 q3 hvb e0 e1 e2 e3 e4 z0 z1 z2 z3 z4 f0 f1 f2 f3 f4 g0
      go_loopw [39] (fun i wr => ∃ j : Nat, j ≤ n ∧ i = .int .i64 j ∧ Hid (BR wr bt n (decJ b n j)) ∧ Hid (Keep (fun i => i = bt) W3 wr)) (fun i _ => n - (intOf i).toNat)
      case atStart => exact ⟨0, by omega, rfl, T3, Lib.hid (Keep.refl _ _)⟩
      case round =>
        obtain ⟨j, hj, rfl, HT, HK⟩ := hrel
        have q6 := HK.out.blk Q3.out (fun e => n1 e.symm)
        by_cases hlt : j < n
        · have hsl := HLO.out j hlt
          have hbs := S3.out.keep' HK.out (fun k hk e => by have := HVB.out k hk; have := LW.out.2.1; omega)
          obtain ⟨bb, oo, ha, d1⟩ := hbs.at_ (i := 8 + j / 8) (by rw [← HSZ.out]; exact hsl)
          subst ha
          have d2 := d1 (8 + j / 8) (by rw [← HSZ.out]; exact hsl)
          have hst := decJ_set b n j hlt
          have hdb : decB b j = (b.data.toList.getD (8 + j / 8) 0).toNat.testBit (j % 8) := rfl
          have hxl := UInt8.toNat_lt (b.data.toList.getD (8 + j / 8) 0)
          generalize (b.data.toList.getD (8 + j / 8) 0).toNat = x at d2 hdb hxl
          obtain ⟨k, hke⟩ : ∃ k, k = j / 8 := ⟨_, rfl⟩
          obtain ⟨r, hre⟩ : ∃ r, r = j % 8 := ⟨_, rfl⟩
          have y1 : (j : Int) / 8 = (k : Int) := by omega
          have y2 : (j : Int) % 8 = (r : Int) := by omega
          have hr8 : r < 8 := by omega
          have y3 : IntKind.i64.wrap (k : Int) = k := by rw [IntKind.wrap_i64]; omega
          have y4 : (j : Int).tmod 8 = (r : Int) := by rw [Int.tmod_eq_emod_of_nonneg (by omega)]; exact y2
          rw [← hke] at d2 hsl
          rw [← hre] at hdb
          have y5 : IntKind.i64.wrap (8 + (k : Int)) = 8 + (k : Int) := by rw [IntKind.wrap_i64]; omega
          have i2 : 8 + (k : Int) < (sz : Int) := by omega
          have i3 : (j : Int) < n := by omega
          have i4 : 8 + k < sz := by omega
          have y6 : (8 + (k : Int)).toNat = 8 + k := by omega
          obtain ⟨y, hy⟩ : ∃ y, (decJ b n j)[j]? = some y := ⟨_, List.getElem?_eq_getElem (by rw [decJ_len]; exact hlt)⟩
          have ct := HT.out.cell hy
          have cf : wr.drew.frozen? ⟨bt, j, none⟩ = false := HT.out.fz j
          have ct' : wr.drew.cell? ⟨bt, j, none⟩ = some (.bool y) := ct
          have C0 := Lib.hid (show wr.drew.cell? ⟨b6, 1, none⟩ = some (.slice (some ⟨bt, 0, none⟩) n n) ∧ wr.drew.cell? ⟨bb, oo + (8 + k), none⟩ = some (.int .u8 (x : Int)) from ⟨blk_cell q6 1, d2⟩)
          have HST := Lib.hid hst
          have HDB := Lib.hid hdb
          clear hbs d1 d2 q6 hke hre hy ct hst hdb y2
          go_wp2_with fail
          refine wp_late (S := (fun w' => w'.cell? ⟨b6, 1, none⟩ = some (.slice (some ⟨bt, 0, none⟩) n n) ∧ w'.cell? ⟨bb, oo + (8 + k), none⟩ = some (.int .u8 (x : Int)))) [15] (by kernel_rfl) ?_ (fun hHeld0 => ?_)
          · (try dsimp only)
            exact C0.out
          refine takeG (v := ?_) 0 rfl (by kernel_rfl) (by kernel_rfl) (by kernel_rfl) (by kernel_rfl) (by kernel_rfl) (fun _ _ _ h => h) (by rfl) ?_ hHeld0 ?_
          rotate_left
          · intro w hSw; (try dsimp only at hSw); go_simp; with_reducible rfl
          try simp only [Act.put, List.setIfInBounds_toArray, List.set_cons_zero, List.set_cons_succ]
          refine takeG (v := ?_) 1 rfl (by kernel_rfl) (by kernel_rfl) (by kernel_rfl) (by kernel_rfl) (by kernel_rfl) (fun _ _ _ h => h) (by rfl) ?_ hHeld0 ?_
          rotate_left
          · intro w hSw; (try dsimp only at hSw); go_simp; with_reducible rfl
          try simp only [Act.put, List.setIfInBounds_toArray, List.set_cons_zero, List.set_cons_succ]
          refine takeG (v := ?_) 2 rfl (by kernel_rfl) (by kernel_rfl) (by kernel_rfl) (by kernel_rfl) (by kernel_rfl) (fun _ _ _ h => h) (by rfl) ?_ hHeld0 ?_
          rotate_left
          · intro w hSw; (try dsimp only at hSw); go_simp; with_reducible rfl
          try simp only [Act.put, List.setIfInBounds_toArray, List.set_cons_zero, List.set_cons_succ]
          refine takeG (v := ?_) 3 rfl (by kernel_rfl) (by kernel_rfl) (by kernel_rfl) (by kernel_rfl) (by kernel_rfl) (fun _ _ _ h => h) (by rfl) ?_ hHeld0 ?_
          rotate_left
          · intro w hSw; (try dsimp only at hSw); go_simp; with_reducible rfl
          try simp only [Act.put, List.setIfInBounds_toArray, List.set_cons_zero, List.set_cons_succ]
          refine takeG (v := ?_) 4 rfl (by kernel_rfl) (by kernel_rfl) (by kernel_rfl) (by kernel_rfl) (by kernel_rfl) (fun _ _ _ h => h) (by rfl) ?_ hHeld0 ?_
          rotate_left
          · intro w hSw; (try dsimp only at hSw); go_simp; with_reducible rfl
          try simp only [Act.put, List.setIfInBounds_toArray, List.set_cons_zero, List.set_cons_succ]
          refine takeG (v := ?_) 5 rfl (by kernel_rfl) (by kernel_rfl) (by kernel_rfl) (by kernel_rfl) (by kernel_rfl) (fun _ _ _ h => h) (by rfl) ?_ hHeld0 ?_
          rotate_left
          · intro w hSw; (try dsimp only at hSw); go_simp; with_reducible rfl
          try simp only [Act.put, List.setIfInBounds_toArray, List.set_cons_zero, List.set_cons_succ]
          refine takeG (v := ?_) 6 rfl (by kernel_rfl) (by kernel_rfl) (by kernel_rfl) (by kernel_rfl) (by kernel_rfl) (fun _ _ _ h => h) (by rfl) ?_ hHeld0 ?_
          rotate_left
          · intro w hSw; (try dsimp only at hSw); go_simp; with_reducible rfl
          try simp only [Act.put, List.setIfInBounds_toArray, List.set_cons_zero, List.set_cons_succ]
          refine takeG (v := ?_) 9 rfl (by kernel_rfl) (by kernel_rfl) (by kernel_rfl) (by kernel_rfl) (by kernel_rfl) (fun _ _ _ h => h) (by rfl) ?_ hHeld0 ?_
          rotate_left
          · intro w hSw; (try dsimp only at hSw); go_simp; with_reducible rfl
          try simp only [Act.put, List.setIfInBounds_toArray, List.set_cons_zero, List.set_cons_succ]
          refine takeG (v := ?_) 10 rfl (by kernel_rfl) (by kernel_rfl) (by kernel_rfl) (by kernel_rfl) (by kernel_rfl) (fun _ _ _ h => h) (by rfl) ?_ hHeld0 ?_
          rotate_left
          · intro w hSw; (try dsimp only at hSw); go_simp; with_reducible rfl
          try simp only [Act.put, List.setIfInBounds_toArray, List.set_cons_zero, List.set_cons_succ]
          refine wpAnyG_ready (rs := [7]) (by kernel_rfl) (by simp) ?_
          refine readyG rfl (fun K hK => ?_) ?_
          · -- operation 7
            go_simp
            go_wp2_with (
                fail)
            refine hK.out _ _ ?_ (fun hHeld1 => ?_)
            · (try dsimp only)
              exact C0.out
            clear hK K hHeld0
            try simp only [Act.put, List.setIfInBounds_toArray, List.set_cons_zero, List.set_cons_succ]
            refine takeG (v := ?_) 8 rfl (by kernel_rfl) (by kernel_rfl) (by kernel_rfl) (by kernel_rfl) (by kernel_rfl) (fun _ _ _ h => h) (by rfl) ?_ hHeld1 ?_
            rotate_left
            · intro w hSw; (try dsimp only at hSw); go_simp; with_reducible rfl
            try simp only [Act.put, List.setIfInBounds_toArray, List.set_cons_zero, List.set_cons_succ]
            refine takeG (v := ?_) 11 rfl (by kernel_rfl) (by kernel_rfl) (by kernel_rfl) (by kernel_rfl) (by kernel_rfl) (fun _ _ _ h => h) (by rfl) ?_ hHeld1 ?_
            rotate_left
            · intro w hSw; (try dsimp only at hSw); go_simp; with_reducible rfl
            try simp only [Act.put, List.setIfInBounds_toArray, List.set_cons_zero, List.set_cons_succ]
            refine takeG (v := ?_) 12 rfl (by kernel_rfl) (by kernel_rfl) (by kernel_rfl) (by kernel_rfl) (by kernel_rfl) (fun _ _ _ h => h) (by rfl) ?_ hHeld1 ?_
            rotate_left
            · intro w hSw; (try dsimp only at hSw); go_simp; with_reducible rfl
            try simp only [Act.put, List.setIfInBounds_toArray, List.set_cons_zero, List.set_cons_succ]
            refine takeG (v := ?_) 13 rfl (by kernel_rfl) (by kernel_rfl) (by kernel_rfl) (by kernel_rfl) (by kernel_rfl) (fun _ _ _ h => h) (by rfl) ?_ hHeld1 ?_
            rotate_left
            · intro w hSw; (try dsimp only at hSw); go_simp; with_reducible rfl
            try simp only [Act.put, List.setIfInBounds_toArray, List.set_cons_zero, List.set_cons_succ]
            refine takeG (v := ?_) 14 rfl (by kernel_rfl) (by kernel_rfl) (by kernel_rfl) (by kernel_rfl) (by kernel_rfl) (fun _ _ _ h => h) (by rfl) ?_ hHeld1 ?_
            rotate_left
            · intro w hSw; (try dsimp only at hSw); go_simp; with_reducible rfl
            try simp only [Act.put, List.setIfInBounds_toArray, List.set_cons_zero, List.set_cons_succ]
            refine wpAnyG_ready (rs := [15]) (by kernel_rfl) (by simp) ?_
            refine lateG rfl (by kernel_rfl) (fun K hK => ?_) ?_
            · -- operation 15
              go_simp
              refine hK.out _ _ ?_
              clear hK K
              try simp only [Act.put, List.setIfInBounds_toArray, List.set_cons_zero, List.set_cons_succ]
              refine wpAnyG_done (by kernel_rfl) ?_ _
              go_wp2_with fail
              have hdbit := dec_bit x r hxl
              refine ⟨⟨j + 1, by omega, by simp, Lib.hid ?_, Lib.hid ?_⟩, by simp [intOf]; omega⟩
              · have := HT.out.set j (bits BinOp.and IntKind.u8 ((x : Int) / 2 ^ r) 1 == 1)
                rw [hdbit, ← HDB.out, HST.out] at this
                rw [hdbit, ← HDB.out]
                exact this
              · exact (HK.out.setEq j _).drew
            exact allReadyG_nil
          exact allReadyG_nil
        · obtain rfl : j = n := by omega
          rw [decJ_all] at HT
          have hbs := S3.out.keep' HK.out (fun k hk e => by have := HVB.out k hk; have := LW.out.2.1; omega)
          obtain ⟨L, hL⟩ : ∃ L, L = decL b j := ⟨_, rfl⟩
          have hLl : L.length = j := by rw [hL]; simp [decL]
          rw [← hL] at HT
          have HLE := Lib.hid hL
          have HLL := Lib.hid hLl
          have C0 := Lib.hid (show wr.drew.cell? ⟨b6, 1, none⟩ = some (.slice (some ⟨bt, 0, none⟩) j j) from blk_cell q6 1)
          have HBI := Lib.hid (bits_any bt j L wr.drew HT.out (by rw [hLl]; exact hn) (by rw [hLl]; omega))
          rw [hLl] at HBI
          obtain ⟨hx9, hsc, hcm, hnone⟩ := hbs.capm
          clear hx9
          obtain ⟨a8, m8, c8, hm8, s8, b8⟩ := sl_lo a c b 8 .i64 8 rfl (by rw [← HSZ.out, HSN.out]; omega) hsc hcm hnone
          rw [← HSZ.out] at hm8 s8
          have B8 := Lib.hid (show BS wr.drew (.slice a8 m8 c8) (b.extract 8 sz) by rw [HSZ.out]; exact b8 _ (by rw [← HSZ.out]; exact hbs))
          have HM8 := Lib.hid hm8
          have HQ6 := Lib.hid q6
          clear hbs hL hLl q6 hsc hcm hnone b8 hm8 hlt
          go_wp2_with fail
          refine wp_region_held_drew (S := (fun w' => w'.cell? ⟨b6, 1, none⟩ = some (.slice (some ⟨bt, 0, none⟩) j j))) (by kernel_rfl) ?_ (fun hHeld0 => ?_)
          · (try dsimp only)
            first | with_reducible exact C0.out | with_reducible exact C5.out | with_reducible exact C4.out
          refine takeN (v := ?_) 0 rfl (by kernel_rfl) (by kernel_rfl) (by kernel_rfl) (fun _ _ _ h => h) (by rfl) ?_ hHeld0 ?_
          rotate_left
          · intro w hSw; (try dsimp only at hSw); go_simp; with_reducible rfl
          try simp only [Act.put, List.setIfInBounds_toArray, List.set_cons_zero, List.set_cons_succ]
          refine takeN (v := ?_) 1 rfl (by kernel_rfl) (by kernel_rfl) (by kernel_rfl) (fun _ _ _ h => h) (by rfl) ?_ hHeld0 ?_
          rotate_left
          · intro w hSw; (try dsimp only at hSw); go_simp; with_reducible rfl
          try simp only [Act.put, List.setIfInBounds_toArray, List.set_cons_zero, List.set_cons_succ]
          refine takeN (v := ?_) 3 rfl (by kernel_rfl) (by kernel_rfl) (by kernel_rfl) (fun _ _ _ h => h) (by rfl) ?_ hHeld0 ?_
          rotate_left
          · intro w hSw; (try dsimp only at hSw); go_simp; with_reducible rfl
          try simp only [Act.put, List.setIfInBounds_toArray, List.set_cons_zero, List.set_cons_succ]
          refine takeN (v := ?_) 4 rfl (by kernel_rfl) (by kernel_rfl) (by kernel_rfl) (fun _ _ _ h => h) (by rfl) ?_ hHeld0 ?_
          rotate_left
          · intro w hSw; (try dsimp only at hSw); go_simp; with_reducible rfl
          try simp only [Act.put, List.setIfInBounds_toArray, List.set_cons_zero, List.set_cons_succ]
          refine wpAnyH_ready (rs := [2]) (by kernel_rfl) (by simp) ?_
          refine readyN rfl (fun K hK => ?_) ?_
          · -- operation 2
            go_simp
            first
              | (go_at_call 61; refine HBI.out.mono ?_; rintro e w4 ⟨v4, rfl, ho, hb4⟩
                 have B4 := Lib.hid hb4
                 have C4 := Lib.hid ((Keep.ofBelow hb4 (fun _ => False)).cell C0.out (fun h => h))
                 have HSE := Lib.hid (sleq_any v4 (.slice a8 m8 c8) (bitsB L) (b.extract 8 sz) w4 ho.bs (B8.out.below hb4) (by unfold bitsB; rw [bitsJ_size]; unfold bitsN; have := HLL.out; omega))
                 clear ho hb4)
              | (go_at_call 70; refine HSE.out.mono ?_; rintro e w5 ⟨rfl, hb5⟩
                 have B5 := Lib.hid (below_and B4.out hb5)
                 have C5 := Lib.hid ((Keep.ofBelow hb5 (fun _ => False)).cell C4.out (fun h => h))
                 clear hb5)
            go_wp2_with fail
            refine hK.out _ _ ?_ (fun hHeld1 => ?_)
            · (try dsimp only)
              first | with_reducible exact C0.out | with_reducible exact C5.out | with_reducible exact C4.out
            clear hK K hHeld0
            try simp only [Act.put, List.setIfInBounds_toArray, List.set_cons_zero, List.set_cons_succ]
            refine wpAnyH_ready (rs := [5]) (by kernel_rfl) (by simp) ?_
            refine readyN rfl (fun K hK => ?_) ?_
            · -- operation 5
              go_simp
              first
                | (go_at_call 61; refine HBI.out.mono ?_; rintro e w4 ⟨v4, rfl, ho, hb4⟩
                   have B4 := Lib.hid hb4
                   have C4 := Lib.hid ((Keep.ofBelow hb4 (fun _ => False)).cell C0.out (fun h => h))
                   have HSE := Lib.hid (sleq_any v4 (.slice a8 m8 c8) (bitsB L) (b.extract 8 sz) w4 ho.bs (B8.out.below hb4) (by unfold bitsB; rw [bitsJ_size]; unfold bitsN; have := HLL.out; omega))
                   clear ho hb4)
                | (go_at_call 70; refine HSE.out.mono ?_; rintro e w5 ⟨rfl, hb5⟩
                   have B5 := Lib.hid (below_and B4.out hb5)
                   have C5 := Lib.hid ((Keep.ofBelow hb5 (fun _ => False)).cell C4.out (fun h => h))
                   clear hb5)
              go_wp2_with fail
              refine hK.out _ _ ?_ (fun hHeld2 => ?_)
              · (try dsimp only)
                first | with_reducible exact C0.out | with_reducible exact C5.out | with_reducible exact C4.out
              clear hK K hHeld1
              try simp only [Act.put, List.setIfInBounds_toArray, List.set_cons_zero, List.set_cons_succ]
              refine takeN (v := ?_) 6 rfl (by kernel_rfl) (by kernel_rfl) (by kernel_rfl) (fun _ _ _ h => h) (by rfl) ?_ hHeld2 ?_
              rotate_left
              · intro w hSw; (try dsimp only at hSw); go_simp; with_reducible rfl
              try simp only [Act.put, List.setIfInBounds_toArray, List.set_cons_zero, List.set_cons_succ]
              refine wpAnyH_done (by kernel_rfl) ?_ _
              go_wp2_with fail
              have k5 : Keep (fun i => i = bt) W3 w5 := HK.out.drew.trans (Keep.ofBelow B5.out (fun _ => False)) (fun i hi => hi.elim)
              have hk25 : Keep (fun i => i = b6 ∨ i = bt) w2 w5 := (K3.out.mono (fun i hi => .inl hi)).trans k5 (fun i hi => .inl (.inr hi))
              have q5 := (Keep.ofBelow B5.out (fun _ => False)).blk (show wr.drew.heap[b6]? = _ from HQ6.out) (fun h => h)
              have r5 := hk25.blk HRB.out (fun e => by
                rcases e with e | e
                · exact hne e.symm
                · exact n4 e.symm)
              have t5 := (show BR wr.drew bt j L from HT.out).keep (Keep.ofBelow B5.out (fun _ => False)) (fun h => h)
              have h5 := H2.out.keep hk25 (fun e => by
                rcases e with e | e
                · exact n2 e
                · exact LW.out.2.2.2.2.1 e.symm)
              have m5 := M2.out.keep hk25 (fun e => by
                rcases e with e | e
                · exact n3 e
                · obtain ⟨es, cl, h1, _⟩ := M2.out
                  obtain ⟨cur, h2, _⟩ := T2.out
                  rw [e, h2] at h1; cases h1)
              have z0 : w5.drew.cell? ⟨w.heap.size, 0, none⟩ = some (.int .i64 0) := blk_cell r5 0
              have z1 : w5.drew.cell? ⟨w.heap.size, 1, none⟩ = some (.slice none 0 0) := blk_cell r5 1
              have z2 : w5.drew.cell? ⟨w.heap.size, 2, none⟩ = some (.slice none 0 0) := blk_cell r5 2
              have z3 : w5.drew.cell? ⟨w.heap.size, 3, none⟩ = some (.map none) := blk_cell r5 3
              have z4 : w5.drew.cell? ⟨w.heap.size, 4, none⟩ = some (.bool false) := blk_cell r5 4
              have f0 : w5.drew.frozen? ⟨w.heap.size, 0, none⟩ = false := blk_frozen r5 0
              have f1 : w5.drew.frozen? ⟨w.heap.size, 1, none⟩ = false := blk_frozen r5 1
              have f2 : w5.drew.frozen? ⟨w.heap.size, 2, none⟩ = false := blk_frozen r5 2
              have f3 : w5.drew.frozen? ⟨w.heap.size, 3, none⟩ = false := blk_frozen r5 3
              have f4 : w5.drew.frozen? ⟨w.heap.size, 4, none⟩ = false := blk_frozen r5 4
              have zz0 : w5.cell? ⟨w.heap.size, 0, none⟩ = some (.int .i64 0) := blk_cell r5 0
              have ff0 : w5.frozen? ⟨w.heap.size, 0, none⟩ = false := blk_frozen r5 0
              have zz1 : w5.cell? ⟨w.heap.size, 1, none⟩ = some (.slice none 0 0) := blk_cell r5 1
              have ff1 : w5.frozen? ⟨w.heap.size, 1, none⟩ = false := blk_frozen r5 1
              have zz2 : w5.cell? ⟨w.heap.size, 2, none⟩ = some (.slice none 0 0) := blk_cell r5 2
              have ff2 : w5.frozen? ⟨w.heap.size, 2, none⟩ = false := blk_frozen r5 2
              have zz3 : w5.cell? ⟨w.heap.size, 3, none⟩ = some (.map none) := blk_cell r5 3
              have ff3 : w5.frozen? ⟨w.heap.size, 3, none⟩ = false := blk_frozen r5 3
              have zz4 : w5.cell? ⟨w.heap.size, 4, none⟩ = some (.bool false) := blk_cell r5 4
              have ff4 : w5.frozen? ⟨w.heap.size, 4, none⟩ = false := blk_frozen r5 4
              have hb5 : Below w.heap.size w w5 := (LW.out.2.2.2.2.2.trans (B2.out.mono LW.out.2.2.2.2.2.size)).trans (hk25.below (B := w.heap.size) (LW.out.2.2.2.2.2.trans (B2.out.mono LW.out.2.2.2.2.2.size)).size (fun i hi => by
                rcases hi with rfl | rfl
                · exact LW.out.1
                · exact LW.out.2.1))
              have FIN := Lib.hid fun (X : World) (hk : Keep (fun i => i = w.heap.size) w5 X) => show BR X bt j L ∧ BR X bh j (List.replicate j false) ∧ IMapAt X bf [] ∧ Below w.heap.size w X from
                ⟨t5.keep hk n4, h5.keep hk (fun e => by
                  obtain ⟨cur, h1, _⟩ := H2.out
                  rw [e, HRB.out] at h1; cases h1), m5.keep hk (fun e => by
                  obtain ⟨es, cl, h1, _⟩ := M2.out
                  rw [e, HRB.out] at h1; cases h1), hb5.trans (hk.below (B := w.heap.size) hb5.size (fun i hi => by rw [hi]; exact Nat.le_refl _))⟩
              have HOK2 := Lib.hid (show (b.size = 8 + bitsN j ∧ rootB b < j) ∧ 0 ≤ rootB b ∧ True from ⟨⟨by rw [← HSZ.out]; exact HSN.out, by rw [← HRT.out]; exact HOK.out.2⟩, by rw [← HRT.out]; exact hv0, trivial⟩)
              have l0 : 0 < L.length := by rw [HLL.out]; omega
              have l1 : 1 < L.length := by rw [HLL.out]; omega
              obtain ⟨sm, hsm⟩ : ∃ sm, sm = decide (bitsB L = b.extract 8 sz) := ⟨_, rfl⟩
              obtain ⟨t0, ht0⟩ : ∃ t0, t0 = L[0] := ⟨_, rfl⟩
              obtain ⟨t1, ht1⟩ : ∃ t1, t1 = L[1] := ⟨_, rfl⟩
              have hov : okB b j = (sm && ((!t0) && ((!t1) && (root == 0 || hasB L root)))) := by
                unfold okB
                rw [← HLE.out, ← HRT.out, ← HSZ.out, hsm, ht0, ht1]
                simp [l0, l1]
              have ct0 : w5.drew.cell? ⟨bt, 0, none⟩ = some (.bool t0) := by rw [ht0]; exact t5.cell (List.getElem?_eq_getElem l0)
              have ct1 : w5.drew.cell? ⟨bt, 1, none⟩ = some (.bool t1) := by rw [ht1]; exact t5.cell (List.getElem?_eq_getElem l1)
              have D0 := Lib.hid (show (w5.drew.cell? ⟨b6, 0, none⟩ = some (.int .i64 root) ∧ w5.drew.cell? ⟨b6, 1, none⟩ = some (.slice (some ⟨bt, 0, none⟩) j j) ∧ w5.drew.cell? ⟨b6, 2, none⟩ = some (.slice (some ⟨bh, 0, none⟩) j j) ∧ w5.drew.cell? ⟨b6, 3, none⟩ = some (.map (some bf)) ∧ w5.drew.cell? ⟨b6, 4, none⟩ = some (.bool false)) ∧ w5.drew.cell? ⟨bt, 0, none⟩ = some (.bool t0) ∧ w5.drew.cell? ⟨bt, 1, none⟩ = some (.bool t1) from ⟨⟨blk_cell q5 0, blk_cell q5 1, blk_cell q5 2, blk_cell q5 3, blk_cell q5 4⟩, ct0, ct1⟩)
              have CK := Lib.hid fun (X : World) (hk : Keep (fun i => i = w.heap.size) w5 X) => show (X.cell? ⟨b6, 0, none⟩ = some (.int .i64 root) ∧ X.cell? ⟨b6, 1, none⟩ = some (.slice (some ⟨bt, 0, none⟩) j j) ∧ X.cell? ⟨b6, 2, none⟩ = some (.slice (some ⟨bh, 0, none⟩) j j) ∧ X.cell? ⟨b6, 3, none⟩ = some (.map (some bf)) ∧ X.cell? ⟨b6, 4, none⟩ = some (.bool false)) ∧ X.cell? ⟨bt, 0, none⟩ = some (.bool t0) ∧ X.cell? ⟨bt, 1, none⟩ = some (.bool t1) from ⟨⟨hk.cell D0.out.1.1 hne, hk.cell D0.out.1.2.1 hne, hk.cell D0.out.1.2.2.1 hne, hk.cell D0.out.1.2.2.2.1 hne, hk.cell D0.out.1.2.2.2.2 hne⟩, hk.cell D0.out.2.1 n4, hk.cell D0.out.2.2 n4⟩
              have HHA := Lib.hid (has_any b6 j bt L root w5.drew (by rw [HLL.out]; exact D0.out.1.2.1) t5 (by rw [HLL.out]; exact hn))
              have HOV := Lib.hid hov
              have HQ5 := Lib.hid (show w5.drew.heap[b6]? = _ from q5)
              rw [← hsm]
              clear k5 hk25 q5 r5 t5 h5 m5 hb5 l0 l1 hsm ht0 ht1 hov ct0 ct1 C0 B8 HBI HQ6
              cases sm with
              | false =>
                have HV := Lib.hid (show okB b j = false by rw [HOV.out]; rfl)
                refine wp_region_held_drew (S := (fun w' => (w'.cell? ⟨b6, 0, none⟩ = some (.int .i64 root) ∧ w'.cell? ⟨b6, 1, none⟩ = some (.slice (some ⟨bt, 0, none⟩) j j) ∧ w'.cell? ⟨b6, 2, none⟩ = some (.slice (some ⟨bh, 0, none⟩) j j) ∧ w'.cell? ⟨b6, 3, none⟩ = some (.map (some bf)) ∧ w'.cell? ⟨b6, 4, none⟩ = some (.bool false)) ∧ w'.cell? ⟨bt, 0, none⟩ = some (.bool t0) ∧ w'.cell? ⟨bt, 1, none⟩ = some (.bool t1))) (by kernel_rfl) ?_ (fun hHeld0 => ?_)
                · (try dsimp only)
                  first | with_reducible exact D0.out | with_reducible exact CK.out _ (((((((Keep.refl _ _).setEq _ _).setEq _ _).setEq _ _).setEq _ _).setEq _ _).drew)
                refine takeN (v := ?_) 1 rfl (by kernel_rfl) (by kernel_rfl) (by kernel_rfl) (fun _ _ _ h => h) (by rfl) ?_ hHeld0 ?_
                rotate_left
                · intro w hSw; (try dsimp only at hSw); go_simp; with_reducible rfl
                try simp only [Act.put, List.setIfInBounds_toArray, List.set_cons_zero, List.set_cons_succ]
                refine takeN (v := ?_) 2 rfl (by kernel_rfl) (by kernel_rfl) (by kernel_rfl) (fun _ _ _ h => h) (by rfl) ?_ hHeld0 ?_
                rotate_left
                · intro w hSw; (try dsimp only at hSw); go_simp; with_reducible rfl
                try simp only [Act.put, List.setIfInBounds_toArray, List.set_cons_zero, List.set_cons_succ]
                refine skipN 3 rfl (by kernel_rfl) (by kernel_rfl) (by kernel_rfl) (fun _ _ _ h => h) (by rfl) hHeld0 ?_
                try simp only [Act.put, List.setIfInBounds_toArray, List.set_cons_zero, List.set_cons_succ]
                refine skipN 4 rfl (by kernel_rfl) (by kernel_rfl) (by kernel_rfl) (fun _ _ _ h => h) (by rfl) hHeld0 ?_
                try simp only [Act.put, List.setIfInBounds_toArray, List.set_cons_zero, List.set_cons_succ]
                refine skipN 5 rfl (by kernel_rfl) (by kernel_rfl) (by kernel_rfl) (fun _ _ _ h => h) (by rfl) hHeld0 ?_
                try simp only [Act.put, List.setIfInBounds_toArray, List.set_cons_zero, List.set_cons_succ]
                refine skipN 6 rfl (by kernel_rfl) (by kernel_rfl) (by kernel_rfl) (fun _ _ _ h => h) (by rfl) hHeld0 ?_
                try simp only [Act.put, List.setIfInBounds_toArray, List.set_cons_zero, List.set_cons_succ]
                refine skipN 7 rfl (by kernel_rfl) (by kernel_rfl) (by kernel_rfl) (fun _ _ _ h => h) (by rfl) hHeld0 ?_
                try simp only [Act.put, List.setIfInBounds_toArray, List.set_cons_zero, List.set_cons_succ]
                refine takeN (v := ?_) 8 rfl (by kernel_rfl) (by kernel_rfl) (by kernel_rfl) (fun _ _ _ h => h) (by rfl) ?_ hHeld0 ?_
                rotate_left
                · intro w hSw; (try dsimp only at hSw); go_simp; with_reducible rfl
                try simp only [Act.put, List.setIfInBounds_toArray, List.set_cons_zero, List.set_cons_succ]
                refine takeN (v := ?_) 9 rfl (by kernel_rfl) (by kernel_rfl) (by kernel_rfl) (fun _ _ _ h => h) (by rfl) ?_ hHeld0 ?_
                rotate_left
                · intro w hSw; (try dsimp only at hSw); go_simp; with_reducible rfl
                try simp only [Act.put, List.setIfInBounds_toArray, List.set_cons_zero, List.set_cons_succ]
                refine skipN 10 rfl (by kernel_rfl) (by kernel_rfl) (by kernel_rfl) (fun _ _ _ h => h) (by rfl) hHeld0 ?_
                try simp only [Act.put, List.setIfInBounds_toArray, List.set_cons_zero, List.set_cons_succ]
                refine skipN 11 rfl (by kernel_rfl) (by kernel_rfl) (by kernel_rfl) (fun _ _ _ h => h) (by rfl) hHeld0 ?_
                try simp only [Act.put, List.setIfInBounds_toArray, List.set_cons_zero, List.set_cons_succ]
                refine skipN 12 rfl (by kernel_rfl) (by kernel_rfl) (by kernel_rfl) (fun _ _ _ h => h) (by rfl) hHeld0 ?_
                try simp only [Act.put, List.setIfInBounds_toArray, List.set_cons_zero, List.set_cons_succ]
                refine skipN 13 rfl (by kernel_rfl) (by kernel_rfl) (by kernel_rfl) (fun _ _ _ h => h) (by rfl) hHeld0 ?_
                try simp only [Act.put, List.setIfInBounds_toArray, List.set_cons_zero, List.set_cons_succ]
                refine skipN 14 rfl (by kernel_rfl) (by kernel_rfl) (by kernel_rfl) (fun _ _ _ h => h) (by rfl) hHeld0 ?_
                try simp only [Act.put, List.setIfInBounds_toArray, List.set_cons_zero, List.set_cons_succ]
                refine takeN (v := ?_) 15 rfl (by kernel_rfl) (by kernel_rfl) (by kernel_rfl) (fun _ _ _ h => h) (by rfl) ?_ hHeld0 ?_
                rotate_left
                · intro w hSw; (try dsimp only at hSw); go_simp; with_reducible rfl
                try simp only [Act.put, List.setIfInBounds_toArray, List.set_cons_zero, List.set_cons_succ]
                refine takeN (v := ?_) 16 rfl (by kernel_rfl) (by kernel_rfl) (by kernel_rfl) (fun _ _ _ h => h) (by rfl) ?_ hHeld0 ?_
                rotate_left
                · intro w hSw; (try dsimp only at hSw); go_simp; with_reducible rfl
                try simp only [Act.put, List.setIfInBounds_toArray, List.set_cons_zero, List.set_cons_succ]
                refine skipN 17 rfl (by kernel_rfl) (by kernel_rfl) (by kernel_rfl) (fun _ _ _ h => h) (by rfl) hHeld0 ?_
                try simp only [Act.put, List.setIfInBounds_toArray, List.set_cons_zero, List.set_cons_succ]
                refine skipN 18 rfl (by kernel_rfl) (by kernel_rfl) (by kernel_rfl) (fun _ _ _ h => h) (by rfl) hHeld0 ?_
                try simp only [Act.put, List.setIfInBounds_toArray, List.set_cons_zero, List.set_cons_succ]
                refine skipN 19 rfl (by kernel_rfl) (by kernel_rfl) (by kernel_rfl) (fun _ _ _ h => h) (by rfl) hHeld0 ?_
                try simp only [Act.put, List.setIfInBounds_toArray, List.set_cons_zero, List.set_cons_succ]
                refine skipN 20 rfl (by kernel_rfl) (by kernel_rfl) (by kernel_rfl) (fun _ _ _ h => h) (by rfl) hHeld0 ?_
                try simp only [Act.put, List.setIfInBounds_toArray, List.set_cons_zero, List.set_cons_succ]
                refine skipN 21 rfl (by kernel_rfl) (by kernel_rfl) (by kernel_rfl) (fun _ _ _ h => h) (by rfl) hHeld0 ?_
                try simp only [Act.put, List.setIfInBounds_toArray, List.set_cons_zero, List.set_cons_succ]
                refine skipN 22 rfl (by kernel_rfl) (by kernel_rfl) (by kernel_rfl) (fun _ _ _ h => h) (by rfl) hHeld0 ?_
                try simp only [Act.put, List.setIfInBounds_toArray, List.set_cons_zero, List.set_cons_succ]
                refine skipN 23 rfl (by kernel_rfl) (by kernel_rfl) (by kernel_rfl) (fun _ _ _ h => h) (by rfl) hHeld0 ?_
                try simp only [Act.put, List.setIfInBounds_toArray, List.set_cons_zero, List.set_cons_succ]
                refine skipN 24 rfl (by kernel_rfl) (by kernel_rfl) (by kernel_rfl) (fun _ _ _ h => h) (by rfl) hHeld0 ?_
                try simp only [Act.put, List.setIfInBounds_toArray, List.set_cons_zero, List.set_cons_succ]
                refine takeN (v := ?_) 25 rfl (by kernel_rfl) (by kernel_rfl) (by kernel_rfl) (fun _ _ _ h => h) (by rfl) ?_ hHeld0 ?_
                rotate_left
                · intro w hSw; (try dsimp only at hSw); go_simp; with_reducible rfl
                try simp only [Act.put, List.setIfInBounds_toArray, List.set_cons_zero, List.set_cons_succ]
                refine wpAnyH_ready (rs := [0]) (by kernel_rfl) (by simp) ?_
                refine readyN rfl (fun K hK => ?_) ?_
                · -- operation 0
                  first
                    | (refine load59 (.tmp 6) rfl b6 rfl _ _ _ _ _ (0, 0) HQ5.out ?_)
                    | (go_at_call 48; refine HHA.out.mono ?_; rintro e w9 ⟨rfl, rfl⟩)
                  refine hK.out _ _ ?_ (fun hHeld1 => ?_)
                  · (try dsimp only)
                    first | with_reducible exact D0.out | with_reducible exact CK.out _ (((((((Keep.refl _ _).setEq _ _).setEq _ _).setEq _ _).setEq _ _).setEq _ _).drew)
                  clear hK K hHeld0
                  try simp only [Act.put, List.setIfInBounds_toArray, List.set_cons_zero, List.set_cons_succ]
                  refine wpAnyH_ready (rs := [26]) (by kernel_rfl) (by simp) ?_
                  refine readyN rfl (fun K hK => ?_) ?_
                  · -- operation 26
                    go_simp
                    refine hK.out _ _ ?_ (fun hHeld2 => ?_)
                    · (try dsimp only)
                      first | with_reducible exact D0.out | with_reducible exact CK.out _ (((((((Keep.refl _ _).setEq _ _).setEq _ _).setEq _ _).setEq _ _).setEq _ _).drew)
                    clear hK K hHeld1
                    try simp only [Act.put, List.setIfInBounds_toArray, List.set_cons_zero, List.set_cons_succ]
                    refine takeN (v := ?_) 27 rfl (by kernel_rfl) (by kernel_rfl) (by kernel_rfl) (fun _ _ _ h => h) (by rfl) ?_ hHeld2 ?_
                    rotate_left
                    · intro w hSw; (try dsimp only at hSw); go_simp; with_reducible rfl
                    try simp only [Act.put, List.setIfInBounds_toArray, List.set_cons_zero, List.set_cons_succ]
                    refine wpAnyH_done (by kernel_rfl) ?_ _
                    go_wp2_with fail
                    refine bodyPost_ret (v := .tuple #[.agg #[.int .i64 root, .slice (some ⟨bt, 0, none⟩) j j, .slice (some ⟨bh, 0, none⟩) j j, .map (some bf), .bool false], .bool false]) (by simp [results, Try.results46, go_sem, zz0, zz1, zz2, zz3, zz4]; try rfl) rfl ?_
                    have hkk := FIN.out _ (((((((Keep.refl (fun i => i = w.heap.size) w5).setEq 0 (.int .i64 root)).setEq 1 (.slice (some ⟨bt, 0, none⟩) j j)).setEq 2 (.slice (some ⟨bh, 0, none⟩) j j)).setEq 3 (.map (some bf))).setEq 4 (.bool false)).drew)
                    rw [HRR.out]
                    exact ⟨head_out HOK2.out.1 HOK2.out.2.1 HRT.out HLE.out HV.out h4 hn hkk.1 hkk.2.1 hkk.2.2.1 LW.out.2.2.2.2.1 LW.out.2.1 LW.out.2.2.1 LW.out.2.2.2.1, hkk.2.2.2⟩
                  exact AllReadyH.nil
                exact AllReadyH.nil
              | true =>
                cases t0 with
                | true =>
                  have HV := Lib.hid (show okB b j = false by rw [HOV.out]; rfl)
                  refine wp_region_held_drew (S := (fun w' => (w'.cell? ⟨b6, 0, none⟩ = some (.int .i64 root) ∧ w'.cell? ⟨b6, 1, none⟩ = some (.slice (some ⟨bt, 0, none⟩) j j) ∧ w'.cell? ⟨b6, 2, none⟩ = some (.slice (some ⟨bh, 0, none⟩) j j) ∧ w'.cell? ⟨b6, 3, none⟩ = some (.map (some bf)) ∧ w'.cell? ⟨b6, 4, none⟩ = some (.bool false)) ∧ w'.cell? ⟨bt, 0, none⟩ = some (.bool true) ∧ w'.cell? ⟨bt, 1, none⟩ = some (.bool t1))) (by kernel_rfl) ?_ (fun hHeld0 => ?_)
                  · (try dsimp only)
                    first | with_reducible exact D0.out | with_reducible exact CK.out _ (((((((Keep.refl _ _).setEq _ _).setEq _ _).setEq _ _).setEq _ _).setEq _ _).drew)
                  refine takeN (v := ?_) 1 rfl (by kernel_rfl) (by kernel_rfl) (by kernel_rfl) (fun _ _ _ h => h) (by rfl) ?_ hHeld0 ?_
                  rotate_left
                  · intro w hSw; (try dsimp only at hSw); go_simp; with_reducible rfl
                  try simp only [Act.put, List.setIfInBounds_toArray, List.set_cons_zero, List.set_cons_succ]
                  refine takeN (v := ?_) 2 rfl (by kernel_rfl) (by kernel_rfl) (by kernel_rfl) (fun _ _ _ h => h) (by rfl) ?_ hHeld0 ?_
                  rotate_left
                  · intro w hSw; (try dsimp only at hSw); go_simp; with_reducible rfl
                  try simp only [Act.put, List.setIfInBounds_toArray, List.set_cons_zero, List.set_cons_succ]
                  refine takeN (v := ?_) 3 rfl (by kernel_rfl) (by kernel_rfl) (by kernel_rfl) (fun _ _ _ h => h) (by rfl) ?_ hHeld0 ?_
                  rotate_left
                  · intro w hSw; (try dsimp only at hSw); go_simp; with_reducible rfl
                  try simp only [Act.put, List.setIfInBounds_toArray, List.set_cons_zero, List.set_cons_succ]
                  refine takeN (v := ?_) 4 rfl (by kernel_rfl) (by kernel_rfl) (by kernel_rfl) (fun _ _ _ h => h) (by rfl) ?_ hHeld0 ?_
                  rotate_left
                  · intro w hSw; (try dsimp only at hSw); go_simp; with_reducible rfl
                  try simp only [Act.put, List.setIfInBounds_toArray, List.set_cons_zero, List.set_cons_succ]
                  refine wpAnyH_ready (rs := [0, 5]) (by kernel_rfl) (by simp) ?_
                  refine readyN rfl (fun K hK => ?_) ?_
                  · -- operation 0
                    first
                      | (refine load59 (.tmp 6) rfl b6 rfl _ _ _ _ _ (0, 0) HQ5.out ?_)
                      | (go_at_call 48; refine HHA.out.mono ?_; rintro e w9 ⟨rfl, rfl⟩)
                    refine hK.out _ _ ?_ (fun hHeld1 => ?_)
                    · (try dsimp only)
                      first | with_reducible exact D0.out | with_reducible exact CK.out _ (((((((Keep.refl _ _).setEq _ _).setEq _ _).setEq _ _).setEq _ _).setEq _ _).drew)
                    clear hK K hHeld0
                    try simp only [Act.put, List.setIfInBounds_toArray, List.set_cons_zero, List.set_cons_succ]
                    refine wpAnyH_ready (rs := [5]) (by kernel_rfl) (by simp) ?_
                    refine readyN rfl (fun K hK => ?_) ?_
                    · -- operation 5
                      go_simp
                      go_wp2_with (
                          first
                            | (refine load59 (.tmp 6) rfl b6 rfl _ _ _ _ _ (0, 0) HQ5.out ?_)
                            | (go_at_call 48; refine HHA.out.mono ?_; rintro e w9 ⟨rfl, rfl⟩))
                      refine hK.out _ _ ?_ (fun hHeld2 => ?_)
                      · (try dsimp only)
                        first | with_reducible exact D0.out | with_reducible exact CK.out _ (((((((Keep.refl _ _).setEq _ _).setEq _ _).setEq _ _).setEq _ _).setEq _ _).drew)
                      clear hK K hHeld1
                      try simp only [Act.put, List.setIfInBounds_toArray, List.set_cons_zero, List.set_cons_succ]
                      refine takeN (v := ?_) 6 rfl (by kernel_rfl) (by kernel_rfl) (by kernel_rfl) (fun _ _ _ h => h) (by rfl) ?_ hHeld2 ?_
                      rotate_left
                      · intro w hSw; (try dsimp only at hSw); go_simp; with_reducible rfl
                      try simp only [Act.put, List.setIfInBounds_toArray, List.set_cons_zero, List.set_cons_succ]
                      refine takeN (v := ?_) 7 rfl (by kernel_rfl) (by kernel_rfl) (by kernel_rfl) (fun _ _ _ h => h) (by rfl) ?_ hHeld2 ?_
                      rotate_left
                      · intro w hSw; (try dsimp only at hSw); go_simp; with_reducible rfl
                      try simp only [Act.put, List.setIfInBounds_toArray, List.set_cons_zero, List.set_cons_succ]
                      refine takeN (v := ?_) 8 rfl (by kernel_rfl) (by kernel_rfl) (by kernel_rfl) (fun _ _ _ h => h) (by rfl) ?_ hHeld2 ?_
                      rotate_left
                      · intro w hSw; (try dsimp only at hSw); go_simp; with_reducible rfl
                      try simp only [Act.put, List.setIfInBounds_toArray, List.set_cons_zero, List.set_cons_succ]
                      refine takeN (v := ?_) 9 rfl (by kernel_rfl) (by kernel_rfl) (by kernel_rfl) (fun _ _ _ h => h) (by rfl) ?_ hHeld2 ?_
                      rotate_left
                      · intro w hSw; (try dsimp only at hSw); go_simp; with_reducible rfl
                      try simp only [Act.put, List.setIfInBounds_toArray, List.set_cons_zero, List.set_cons_succ]
                      refine skipN 10 rfl (by kernel_rfl) (by kernel_rfl) (by kernel_rfl) (fun _ _ _ h => h) (by rfl) hHeld2 ?_
                      try simp only [Act.put, List.setIfInBounds_toArray, List.set_cons_zero, List.set_cons_succ]
                      refine skipN 11 rfl (by kernel_rfl) (by kernel_rfl) (by kernel_rfl) (fun _ _ _ h => h) (by rfl) hHeld2 ?_
                      try simp only [Act.put, List.setIfInBounds_toArray, List.set_cons_zero, List.set_cons_succ]
                      refine skipN 12 rfl (by kernel_rfl) (by kernel_rfl) (by kernel_rfl) (fun _ _ _ h => h) (by rfl) hHeld2 ?_
                      try simp only [Act.put, List.setIfInBounds_toArray, List.set_cons_zero, List.set_cons_succ]
                      refine skipN 13 rfl (by kernel_rfl) (by kernel_rfl) (by kernel_rfl) (fun _ _ _ h => h) (by rfl) hHeld2 ?_
                      try simp only [Act.put, List.setIfInBounds_toArray, List.set_cons_zero, List.set_cons_succ]
                      refine skipN 14 rfl (by kernel_rfl) (by kernel_rfl) (by kernel_rfl) (fun _ _ _ h => h) (by rfl) hHeld2 ?_
                      try simp only [Act.put, List.setIfInBounds_toArray, List.set_cons_zero, List.set_cons_succ]
                      refine takeN (v := ?_) 15 rfl (by kernel_rfl) (by kernel_rfl) (by kernel_rfl) (fun _ _ _ h => h) (by rfl) ?_ hHeld2 ?_
                      rotate_left
                      · intro w hSw; (try dsimp only at hSw); go_simp; with_reducible rfl
                      try simp only [Act.put, List.setIfInBounds_toArray, List.set_cons_zero, List.set_cons_succ]
                      refine takeN (v := ?_) 16 rfl (by kernel_rfl) (by kernel_rfl) (by kernel_rfl) (fun _ _ _ h => h) (by rfl) ?_ hHeld2 ?_
                      rotate_left
                      · intro w hSw; (try dsimp only at hSw); go_simp; with_reducible rfl
                      try simp only [Act.put, List.setIfInBounds_toArray, List.set_cons_zero, List.set_cons_succ]
                      refine skipN 17 rfl (by kernel_rfl) (by kernel_rfl) (by kernel_rfl) (fun _ _ _ h => h) (by rfl) hHeld2 ?_
                      try simp only [Act.put, List.setIfInBounds_toArray, List.set_cons_zero, List.set_cons_succ]
                      refine skipN 18 rfl (by kernel_rfl) (by kernel_rfl) (by kernel_rfl) (fun _ _ _ h => h) (by rfl) hHeld2 ?_
                      try simp only [Act.put, List.setIfInBounds_toArray, List.set_cons_zero, List.set_cons_succ]
                      refine skipN 19 rfl (by kernel_rfl) (by kernel_rfl) (by kernel_rfl) (fun _ _ _ h => h) (by rfl) hHeld2 ?_
                      try simp only [Act.put, List.setIfInBounds_toArray, List.set_cons_zero, List.set_cons_succ]
                      refine skipN 20 rfl (by kernel_rfl) (by kernel_rfl) (by kernel_rfl) (fun _ _ _ h => h) (by rfl) hHeld2 ?_
                      try simp only [Act.put, List.setIfInBounds_toArray, List.set_cons_zero, List.set_cons_succ]
                      refine skipN 21 rfl (by kernel_rfl) (by kernel_rfl) (by kernel_rfl) (fun _ _ _ h => h) (by rfl) hHeld2 ?_
                      try simp only [Act.put, List.setIfInBounds_toArray, List.set_cons_zero, List.set_cons_succ]
                      refine skipN 22 rfl (by kernel_rfl) (by kernel_rfl) (by kernel_rfl) (fun _ _ _ h => h) (by rfl) hHeld2 ?_
                      try simp only [Act.put, List.setIfInBounds_toArray, List.set_cons_zero, List.set_cons_succ]
                      refine skipN 23 rfl (by kernel_rfl) (by kernel_rfl) (by kernel_rfl) (fun _ _ _ h => h) (by rfl) hHeld2 ?_
                      try simp only [Act.put, List.setIfInBounds_toArray, List.set_cons_zero, List.set_cons_succ]
                      refine skipN 24 rfl (by kernel_rfl) (by kernel_rfl) (by kernel_rfl) (fun _ _ _ h => h) (by rfl) hHeld2 ?_
                      try simp only [Act.put, List.setIfInBounds_toArray, List.set_cons_zero, List.set_cons_succ]
                      refine takeN (v := ?_) 25 rfl (by kernel_rfl) (by kernel_rfl) (by kernel_rfl) (fun _ _ _ h => h) (by rfl) ?_ hHeld2 ?_
                      rotate_left
                      · intro w hSw; (try dsimp only at hSw); go_simp; with_reducible rfl
                      try simp only [Act.put, List.setIfInBounds_toArray, List.set_cons_zero, List.set_cons_succ]
                      refine wpAnyH_ready (rs := [26]) (by kernel_rfl) (by simp) ?_
                      refine readyN rfl (fun K hK => ?_) ?_
                      · -- operation 26
                        go_simp
                        refine hK.out _ _ ?_ (fun hHeld3 => ?_)
                        · (try dsimp only)
                          first | with_reducible exact D0.out | with_reducible exact CK.out _ (((((((Keep.refl _ _).setEq _ _).setEq _ _).setEq _ _).setEq _ _).setEq _ _).drew)
                        clear hK K hHeld2
                        try simp only [Act.put, List.setIfInBounds_toArray, List.set_cons_zero, List.set_cons_succ]
                        refine takeN (v := ?_) 27 rfl (by kernel_rfl) (by kernel_rfl) (by kernel_rfl) (fun _ _ _ h => h) (by rfl) ?_ hHeld3 ?_
                        rotate_left
                        · intro w hSw; (try dsimp only at hSw); go_simp; with_reducible rfl
                        try simp only [Act.put, List.setIfInBounds_toArray, List.set_cons_zero, List.set_cons_succ]
                        refine wpAnyH_done (by kernel_rfl) ?_ _
                        go_wp2_with fail
                        refine bodyPost_ret (v := .tuple #[.agg #[.int .i64 root, .slice (some ⟨bt, 0, none⟩) j j, .slice (some ⟨bh, 0, none⟩) j j, .map (some bf), .bool false], .bool false]) (by simp [results, Try.results46, go_sem, zz0, zz1, zz2, zz3, zz4]; try rfl) rfl ?_
                        have hkk := FIN.out _ (((((((Keep.refl (fun i => i = w.heap.size) w5).setEq 0 (.int .i64 root)).setEq 1 (.slice (some ⟨bt, 0, none⟩) j j)).setEq 2 (.slice (some ⟨bh, 0, none⟩) j j)).setEq 3 (.map (some bf))).setEq 4 (.bool false)).drew)
                        rw [HRR.out]
                        exact ⟨head_out HOK2.out.1 HOK2.out.2.1 HRT.out HLE.out HV.out h4 hn hkk.1 hkk.2.1 hkk.2.2.1 LW.out.2.2.2.2.1 LW.out.2.1 LW.out.2.2.1 LW.out.2.2.2.1, hkk.2.2.2⟩
                      exact AllReadyH.nil
                    exact AllReadyH.nil
                  refine readyN rfl (fun K hK => ?_) ?_
                  · -- operation 5
                    go_simp
                    go_wp2_with (
                        first
                          | (refine load59 (.tmp 6) rfl b6 rfl _ _ _ _ _ (0, 0) HQ5.out ?_)
                          | (go_at_call 48; refine HHA.out.mono ?_; rintro e w9 ⟨rfl, rfl⟩))
                    refine hK.out _ _ ?_ (fun hHeld1 => ?_)
                    · (try dsimp only)
                      first | with_reducible exact D0.out | with_reducible exact CK.out _ (((((((Keep.refl _ _).setEq _ _).setEq _ _).setEq _ _).setEq _ _).setEq _ _).drew)
                    clear hK K hHeld0
                    try simp only [Act.put, List.setIfInBounds_toArray, List.set_cons_zero, List.set_cons_succ]
                    refine takeN (v := ?_) 6 rfl (by kernel_rfl) (by kernel_rfl) (by kernel_rfl) (fun _ _ _ h => h) (by rfl) ?_ hHeld1 ?_
                    rotate_left
                    · intro w hSw; (try dsimp only at hSw); go_simp; with_reducible rfl
                    try simp only [Act.put, List.setIfInBounds_toArray, List.set_cons_zero, List.set_cons_succ]
                    refine takeN (v := ?_) 7 rfl (by kernel_rfl) (by kernel_rfl) (by kernel_rfl) (fun _ _ _ h => h) (by rfl) ?_ hHeld1 ?_
                    rotate_left
                    · intro w hSw; (try dsimp only at hSw); go_simp; with_reducible rfl
                    try simp only [Act.put, List.setIfInBounds_toArray, List.set_cons_zero, List.set_cons_succ]
                    refine takeN (v := ?_) 8 rfl (by kernel_rfl) (by kernel_rfl) (by kernel_rfl) (fun _ _ _ h => h) (by rfl) ?_ hHeld1 ?_
                    rotate_left
                    · intro w hSw; (try dsimp only at hSw); go_simp; with_reducible rfl
                    try simp only [Act.put, List.setIfInBounds_toArray, List.set_cons_zero, List.set_cons_succ]
                    refine takeN (v := ?_) 9 rfl (by kernel_rfl) (by kernel_rfl) (by kernel_rfl) (fun _ _ _ h => h) (by rfl) ?_ hHeld1 ?_
                    rotate_left
                    · intro w hSw; (try dsimp only at hSw); go_simp; with_reducible rfl
                    try simp only [Act.put, List.setIfInBounds_toArray, List.set_cons_zero, List.set_cons_succ]
                    refine skipN 10 rfl (by kernel_rfl) (by kernel_rfl) (by kernel_rfl) (fun _ _ _ h => h) (by rfl) hHeld1 ?_
                    try simp only [Act.put, List.setIfInBounds_toArray, List.set_cons_zero, List.set_cons_succ]
                    refine skipN 11 rfl (by kernel_rfl) (by kernel_rfl) (by kernel_rfl) (fun _ _ _ h => h) (by rfl) hHeld1 ?_
                    try simp only [Act.put, List.setIfInBounds_toArray, List.set_cons_zero, List.set_cons_succ]
                    refine skipN 12 rfl (by kernel_rfl) (by kernel_rfl) (by kernel_rfl) (fun _ _ _ h => h) (by rfl) hHeld1 ?_
                    try simp only [Act.put, List.setIfInBounds_toArray, List.set_cons_zero, List.set_cons_succ]
                    refine skipN 13 rfl (by kernel_rfl) (by kernel_rfl) (by kernel_rfl) (fun _ _ _ h => h) (by rfl) hHeld1 ?_
                    try simp only [Act.put, List.setIfInBounds_toArray, List.set_cons_zero, List.set_cons_succ]
                    refine skipN 14 rfl (by kernel_rfl) (by kernel_rfl) (by kernel_rfl) (fun _ _ _ h => h) (by rfl) hHeld1 ?_
                    try simp only [Act.put, List.setIfInBounds_toArray, List.set_cons_zero, List.set_cons_succ]
                    refine takeN (v := ?_) 15 rfl (by kernel_rfl) (by kernel_rfl) (by kernel_rfl) (fun _ _ _ h => h) (by rfl) ?_ hHeld1 ?_
                    rotate_left
                    · intro w hSw; (try dsimp only at hSw); go_simp; with_reducible rfl
                    try simp only [Act.put, List.setIfInBounds_toArray, List.set_cons_zero, List.set_cons_succ]
                    refine takeN (v := ?_) 16 rfl (by kernel_rfl) (by kernel_rfl) (by kernel_rfl) (fun _ _ _ h => h) (by rfl) ?_ hHeld1 ?_
                    rotate_left
                    · intro w hSw; (try dsimp only at hSw); go_simp; with_reducible rfl
                    try simp only [Act.put, List.setIfInBounds_toArray, List.set_cons_zero, List.set_cons_succ]
                    refine skipN 17 rfl (by kernel_rfl) (by kernel_rfl) (by kernel_rfl) (fun _ _ _ h => h) (by rfl) hHeld1 ?_
                    try simp only [Act.put, List.setIfInBounds_toArray, List.set_cons_zero, List.set_cons_succ]
                    refine skipN 18 rfl (by kernel_rfl) (by kernel_rfl) (by kernel_rfl) (fun _ _ _ h => h) (by rfl) hHeld1 ?_
                    try simp only [Act.put, List.setIfInBounds_toArray, List.set_cons_zero, List.set_cons_succ]
                    refine skipN 19 rfl (by kernel_rfl) (by kernel_rfl) (by kernel_rfl) (fun _ _ _ h => h) (by rfl) hHeld1 ?_
                    try simp only [Act.put, List.setIfInBounds_toArray, List.set_cons_zero, List.set_cons_succ]
                    refine skipN 20 rfl (by kernel_rfl) (by kernel_rfl) (by kernel_rfl) (fun _ _ _ h => h) (by rfl) hHeld1 ?_
                    try simp only [Act.put, List.setIfInBounds_toArray, List.set_cons_zero, List.set_cons_succ]
                    refine skipN 21 rfl (by kernel_rfl) (by kernel_rfl) (by kernel_rfl) (fun _ _ _ h => h) (by rfl) hHeld1 ?_
                    try simp only [Act.put, List.setIfInBounds_toArray, List.set_cons_zero, List.set_cons_succ]
                    refine skipN 22 rfl (by kernel_rfl) (by kernel_rfl) (by kernel_rfl) (fun _ _ _ h => h) (by rfl) hHeld1 ?_
                    try simp only [Act.put, List.setIfInBounds_toArray, List.set_cons_zero, List.set_cons_succ]
                    refine skipN 23 rfl (by kernel_rfl) (by kernel_rfl) (by kernel_rfl) (fun _ _ _ h => h) (by rfl) hHeld1 ?_
                    try simp only [Act.put, List.setIfInBounds_toArray, List.set_cons_zero, List.set_cons_succ]
                    refine skipN 24 rfl (by kernel_rfl) (by kernel_rfl) (by kernel_rfl) (fun _ _ _ h => h) (by rfl) hHeld1 ?_
                    try simp only [Act.put, List.setIfInBounds_toArray, List.set_cons_zero, List.set_cons_succ]
                    refine takeN (v := ?_) 25 rfl (by kernel_rfl) (by kernel_rfl) (by kernel_rfl) (fun _ _ _ h => h) (by rfl) ?_ hHeld1 ?_
                    rotate_left
                    · intro w hSw; (try dsimp only at hSw); go_simp; with_reducible rfl
                    try simp only [Act.put, List.setIfInBounds_toArray, List.set_cons_zero, List.set_cons_succ]
                    refine wpAnyH_ready (rs := [0]) (by kernel_rfl) (by simp) ?_
                    refine readyN rfl (fun K hK => ?_) ?_
                    · -- operation 0
                      first
                        | (refine load59 (.tmp 6) rfl b6 rfl _ _ _ _ _ (0, 0) HQ5.out ?_)
                        | (go_at_call 48; refine HHA.out.mono ?_; rintro e w9 ⟨rfl, rfl⟩)
                      refine hK.out _ _ ?_ (fun hHeld2 => ?_)
                      · (try dsimp only)
                        first | with_reducible exact D0.out | with_reducible exact CK.out _ (((((((Keep.refl _ _).setEq _ _).setEq _ _).setEq _ _).setEq _ _).setEq _ _).drew)
                      clear hK K hHeld1
                      try simp only [Act.put, List.setIfInBounds_toArray, List.set_cons_zero, List.set_cons_succ]
                      refine wpAnyH_ready (rs := [26]) (by kernel_rfl) (by simp) ?_
                      refine readyN rfl (fun K hK => ?_) ?_
                      · -- operation 26
                        go_simp
                        refine hK.out _ _ ?_ (fun hHeld3 => ?_)
                        · (try dsimp only)
                          first | with_reducible exact D0.out | with_reducible exact CK.out _ (((((((Keep.refl _ _).setEq _ _).setEq _ _).setEq _ _).setEq _ _).setEq _ _).drew)
                        clear hK K hHeld2
                        try simp only [Act.put, List.setIfInBounds_toArray, List.set_cons_zero, List.set_cons_succ]
                        refine takeN (v := ?_) 27 rfl (by kernel_rfl) (by kernel_rfl) (by kernel_rfl) (fun _ _ _ h => h) (by rfl) ?_ hHeld3 ?_
                        rotate_left
                        · intro w hSw; (try dsimp only at hSw); go_simp; with_reducible rfl
                        try simp only [Act.put, List.setIfInBounds_toArray, List.set_cons_zero, List.set_cons_succ]
                        refine wpAnyH_done (by kernel_rfl) ?_ _
                        go_wp2_with fail
                        refine bodyPost_ret (v := .tuple #[.agg #[.int .i64 root, .slice (some ⟨bt, 0, none⟩) j j, .slice (some ⟨bh, 0, none⟩) j j, .map (some bf), .bool false], .bool false]) (by simp [results, Try.results46, go_sem, zz0, zz1, zz2, zz3, zz4]; try rfl) rfl ?_
                        have hkk := FIN.out _ (((((((Keep.refl (fun i => i = w.heap.size) w5).setEq 0 (.int .i64 root)).setEq 1 (.slice (some ⟨bt, 0, none⟩) j j)).setEq 2 (.slice (some ⟨bh, 0, none⟩) j j)).setEq 3 (.map (some bf))).setEq 4 (.bool false)).drew)
                        rw [HRR.out]
                        exact ⟨head_out HOK2.out.1 HOK2.out.2.1 HRT.out HLE.out HV.out h4 hn hkk.1 hkk.2.1 hkk.2.2.1 LW.out.2.2.2.2.1 LW.out.2.1 LW.out.2.2.1 LW.out.2.2.2.1, hkk.2.2.2⟩
                      exact AllReadyH.nil
                    exact AllReadyH.nil
                  exact AllReadyH.nil
                | false =>
                  cases t1 with
                  | true =>
                    have HV := Lib.hid (show okB b j = false by rw [HOV.out]; rfl)
                    refine wp_region_held_drew (S := (fun w' => (w'.cell? ⟨b6, 0, none⟩ = some (.int .i64 root) ∧ w'.cell? ⟨b6, 1, none⟩ = some (.slice (some ⟨bt, 0, none⟩) j j) ∧ w'.cell? ⟨b6, 2, none⟩ = some (.slice (some ⟨bh, 0, none⟩) j j) ∧ w'.cell? ⟨b6, 3, none⟩ = some (.map (some bf)) ∧ w'.cell? ⟨b6, 4, none⟩ = some (.bool false)) ∧ w'.cell? ⟨bt, 0, none⟩ = some (.bool false) ∧ w'.cell? ⟨bt, 1, none⟩ = some (.bool true))) (by kernel_rfl) ?_ (fun hHeld0 => ?_)
                    · (try dsimp only)
                      first | with_reducible exact D0.out | with_reducible exact CK.out _ (((((((Keep.refl _ _).setEq _ _).setEq _ _).setEq _ _).setEq _ _).setEq _ _).drew)
                    refine takeN (v := ?_) 1 rfl (by kernel_rfl) (by kernel_rfl) (by kernel_rfl) (fun _ _ _ h => h) (by rfl) ?_ hHeld0 ?_
                    rotate_left
                    · intro w hSw; (try dsimp only at hSw); go_simp; with_reducible rfl
                    try simp only [Act.put, List.setIfInBounds_toArray, List.set_cons_zero, List.set_cons_succ]
                    refine takeN (v := ?_) 2 rfl (by kernel_rfl) (by kernel_rfl) (by kernel_rfl) (fun _ _ _ h => h) (by rfl) ?_ hHeld0 ?_
                    rotate_left
                    · intro w hSw; (try dsimp only at hSw); go_simp; with_reducible rfl
                    try simp only [Act.put, List.setIfInBounds_toArray, List.set_cons_zero, List.set_cons_succ]
                    refine takeN (v := ?_) 3 rfl (by kernel_rfl) (by kernel_rfl) (by kernel_rfl) (fun _ _ _ h => h) (by rfl) ?_ hHeld0 ?_
                    rotate_left
                    · intro w hSw; (try dsimp only at hSw); go_simp; with_reducible rfl
                    try simp only [Act.put, List.setIfInBounds_toArray, List.set_cons_zero, List.set_cons_succ]
                    refine takeN (v := ?_) 4 rfl (by kernel_rfl) (by kernel_rfl) (by kernel_rfl) (fun _ _ _ h => h) (by rfl) ?_ hHeld0 ?_
                    rotate_left
                    · intro w hSw; (try dsimp only at hSw); go_simp; with_reducible rfl
                    try simp only [Act.put, List.setIfInBounds_toArray, List.set_cons_zero, List.set_cons_succ]
                    refine wpAnyH_ready (rs := [0, 5]) (by kernel_rfl) (by simp) ?_
                    refine readyN rfl (fun K hK => ?_) ?_
                    · -- operation 0
                      first
                        | (refine load59 (.tmp 6) rfl b6 rfl _ _ _ _ _ (0, 0) HQ5.out ?_)
                        | (go_at_call 48; refine HHA.out.mono ?_; rintro e w9 ⟨rfl, rfl⟩)
                      refine hK.out _ _ ?_ (fun hHeld1 => ?_)
                      · (try dsimp only)
                        first | with_reducible exact D0.out | with_reducible exact CK.out _ (((((((Keep.refl _ _).setEq _ _).setEq _ _).setEq _ _).setEq _ _).setEq _ _).drew)
                      clear hK K hHeld0
                      try simp only [Act.put, List.setIfInBounds_toArray, List.set_cons_zero, List.set_cons_succ]
                      refine wpAnyH_ready (rs := [5]) (by kernel_rfl) (by simp) ?_
                      refine readyN rfl (fun K hK => ?_) ?_
                      · -- operation 5
                        go_simp
                        go_wp2_with (
                            first
                              | (refine load59 (.tmp 6) rfl b6 rfl _ _ _ _ _ (0, 0) HQ5.out ?_)
                              | (go_at_call 48; refine HHA.out.mono ?_; rintro e w9 ⟨rfl, rfl⟩))
                        refine hK.out _ _ ?_ (fun hHeld2 => ?_)
                        · (try dsimp only)
                          first | with_reducible exact D0.out | with_reducible exact CK.out _ (((((((Keep.refl _ _).setEq _ _).setEq _ _).setEq _ _).setEq _ _).setEq _ _).drew)
                        clear hK K hHeld1
                        try simp only [Act.put, List.setIfInBounds_toArray, List.set_cons_zero, List.set_cons_succ]
                        refine takeN (v := ?_) 6 rfl (by kernel_rfl) (by kernel_rfl) (by kernel_rfl) (fun _ _ _ h => h) (by rfl) ?_ hHeld2 ?_
                        rotate_left
                        · intro w hSw; (try dsimp only at hSw); go_simp; with_reducible rfl
                        try simp only [Act.put, List.setIfInBounds_toArray, List.set_cons_zero, List.set_cons_succ]
                        refine takeN (v := ?_) 7 rfl (by kernel_rfl) (by kernel_rfl) (by kernel_rfl) (fun _ _ _ h => h) (by rfl) ?_ hHeld2 ?_
                        rotate_left
                        · intro w hSw; (try dsimp only at hSw); go_simp; with_reducible rfl
                        try simp only [Act.put, List.setIfInBounds_toArray, List.set_cons_zero, List.set_cons_succ]
                        refine takeN (v := ?_) 8 rfl (by kernel_rfl) (by kernel_rfl) (by kernel_rfl) (fun _ _ _ h => h) (by rfl) ?_ hHeld2 ?_
                        rotate_left
                        · intro w hSw; (try dsimp only at hSw); go_simp; with_reducible rfl
                        try simp only [Act.put, List.setIfInBounds_toArray, List.set_cons_zero, List.set_cons_succ]
                        refine takeN (v := ?_) 9 rfl (by kernel_rfl) (by kernel_rfl) (by kernel_rfl) (fun _ _ _ h => h) (by rfl) ?_ hHeld2 ?_
                        rotate_left
                        · intro w hSw; (try dsimp only at hSw); go_simp; with_reducible rfl
                        try simp only [Act.put, List.setIfInBounds_toArray, List.set_cons_zero, List.set_cons_succ]
                        refine takeN (v := ?_) 10 rfl (by kernel_rfl) (by kernel_rfl) (by kernel_rfl) (fun _ _ _ h => h) (by rfl) ?_ hHeld2 ?_
                        rotate_left
                        · intro w hSw; (try dsimp only at hSw); go_simp; with_reducible rfl
                        try simp only [Act.put, List.setIfInBounds_toArray, List.set_cons_zero, List.set_cons_succ]
                        refine takeN (v := ?_) 11 rfl (by kernel_rfl) (by kernel_rfl) (by kernel_rfl) (fun _ _ _ h => h) (by rfl) ?_ hHeld2 ?_
                        rotate_left
                        · intro w hSw; (try dsimp only at hSw); go_simp; with_reducible rfl
                        try simp only [Act.put, List.setIfInBounds_toArray, List.set_cons_zero, List.set_cons_succ]
                        refine wpAnyH_ready (rs := [12]) (by kernel_rfl) (by simp) ?_
                        refine readyN rfl (fun K hK => ?_) ?_
                        · -- operation 12
                          go_simp
                          go_wp2_with (
                              first
                                | (refine load59 (.tmp 6) rfl b6 rfl _ _ _ _ _ (0, 0) HQ5.out ?_)
                                | (go_at_call 48; refine HHA.out.mono ?_; rintro e w9 ⟨rfl, rfl⟩))
                          refine hK.out _ _ ?_ (fun hHeld3 => ?_)
                          · (try dsimp only)
                            first | with_reducible exact D0.out | with_reducible exact CK.out _ (((((((Keep.refl _ _).setEq _ _).setEq _ _).setEq _ _).setEq _ _).setEq _ _).drew)
                          clear hK K hHeld2
                          try simp only [Act.put, List.setIfInBounds_toArray, List.set_cons_zero, List.set_cons_succ]
                          refine takeN (v := ?_) 13 rfl (by kernel_rfl) (by kernel_rfl) (by kernel_rfl) (fun _ _ _ h => h) (by rfl) ?_ hHeld3 ?_
                          rotate_left
                          · intro w hSw; (try dsimp only at hSw); go_simp; with_reducible rfl
                          try simp only [Act.put, List.setIfInBounds_toArray, List.set_cons_zero, List.set_cons_succ]
                          refine takeN (v := ?_) 14 rfl (by kernel_rfl) (by kernel_rfl) (by kernel_rfl) (fun _ _ _ h => h) (by rfl) ?_ hHeld3 ?_
                          rotate_left
                          · intro w hSw; (try dsimp only at hSw); go_simp; with_reducible rfl
                          try simp only [Act.put, List.setIfInBounds_toArray, List.set_cons_zero, List.set_cons_succ]
                          refine takeN (v := ?_) 15 rfl (by kernel_rfl) (by kernel_rfl) (by kernel_rfl) (fun _ _ _ h => h) (by rfl) ?_ hHeld3 ?_
                          rotate_left
                          · intro w hSw; (try dsimp only at hSw); go_simp; with_reducible rfl
                          try simp only [Act.put, List.setIfInBounds_toArray, List.set_cons_zero, List.set_cons_succ]
                          refine takeN (v := ?_) 16 rfl (by kernel_rfl) (by kernel_rfl) (by kernel_rfl) (fun _ _ _ h => h) (by rfl) ?_ hHeld3 ?_
                          rotate_left
                          · intro w hSw; (try dsimp only at hSw); go_simp; with_reducible rfl
                          try simp only [Act.put, List.setIfInBounds_toArray, List.set_cons_zero, List.set_cons_succ]
                          refine skipN 17 rfl (by kernel_rfl) (by kernel_rfl) (by kernel_rfl) (fun _ _ _ h => h) (by rfl) hHeld3 ?_
                          try simp only [Act.put, List.setIfInBounds_toArray, List.set_cons_zero, List.set_cons_succ]
                          refine skipN 18 rfl (by kernel_rfl) (by kernel_rfl) (by kernel_rfl) (fun _ _ _ h => h) (by rfl) hHeld3 ?_
                          try simp only [Act.put, List.setIfInBounds_toArray, List.set_cons_zero, List.set_cons_succ]
                          refine skipN 19 rfl (by kernel_rfl) (by kernel_rfl) (by kernel_rfl) (fun _ _ _ h => h) (by rfl) hHeld3 ?_
                          try simp only [Act.put, List.setIfInBounds_toArray, List.set_cons_zero, List.set_cons_succ]
                          refine skipN 20 rfl (by kernel_rfl) (by kernel_rfl) (by kernel_rfl) (fun _ _ _ h => h) (by rfl) hHeld3 ?_
                          try simp only [Act.put, List.setIfInBounds_toArray, List.set_cons_zero, List.set_cons_succ]
                          refine skipN 21 rfl (by kernel_rfl) (by kernel_rfl) (by kernel_rfl) (fun _ _ _ h => h) (by rfl) hHeld3 ?_
                          try simp only [Act.put, List.setIfInBounds_toArray, List.set_cons_zero, List.set_cons_succ]
                          refine skipN 22 rfl (by kernel_rfl) (by kernel_rfl) (by kernel_rfl) (fun _ _ _ h => h) (by rfl) hHeld3 ?_
                          try simp only [Act.put, List.setIfInBounds_toArray, List.set_cons_zero, List.set_cons_succ]
                          refine skipN 23 rfl (by kernel_rfl) (by kernel_rfl) (by kernel_rfl) (fun _ _ _ h => h) (by rfl) hHeld3 ?_
                          try simp only [Act.put, List.setIfInBounds_toArray, List.set_cons_zero, List.set_cons_succ]
                          refine skipN 24 rfl (by kernel_rfl) (by kernel_rfl) (by kernel_rfl) (fun _ _ _ h => h) (by rfl) hHeld3 ?_
                          try simp only [Act.put, List.setIfInBounds_toArray, List.set_cons_zero, List.set_cons_succ]
                          refine takeN (v := ?_) 25 rfl (by kernel_rfl) (by kernel_rfl) (by kernel_rfl) (fun _ _ _ h => h) (by rfl) ?_ hHeld3 ?_
                          rotate_left
                          · intro w hSw; (try dsimp only at hSw); go_simp; with_reducible rfl
                          try simp only [Act.put, List.setIfInBounds_toArray, List.set_cons_zero, List.set_cons_succ]
                          refine wpAnyH_ready (rs := [26]) (by kernel_rfl) (by simp) ?_
                          refine readyN rfl (fun K hK => ?_) ?_
                          · -- operation 26
                            go_simp
                            refine hK.out _ _ ?_ (fun hHeld4 => ?_)
                            · (try dsimp only)
                              first | with_reducible exact D0.out | with_reducible exact CK.out _ (((((((Keep.refl _ _).setEq _ _).setEq _ _).setEq _ _).setEq _ _).setEq _ _).drew)
                            clear hK K hHeld3
                            try simp only [Act.put, List.setIfInBounds_toArray, List.set_cons_zero, List.set_cons_succ]
                            refine takeN (v := ?_) 27 rfl (by kernel_rfl) (by kernel_rfl) (by kernel_rfl) (fun _ _ _ h => h) (by rfl) ?_ hHeld4 ?_
                            rotate_left
                            · intro w hSw; (try dsimp only at hSw); go_simp; with_reducible rfl
                            try simp only [Act.put, List.setIfInBounds_toArray, List.set_cons_zero, List.set_cons_succ]
                            refine wpAnyH_done (by kernel_rfl) ?_ _
                            go_wp2_with fail
                            refine bodyPost_ret (v := .tuple #[.agg #[.int .i64 root, .slice (some ⟨bt, 0, none⟩) j j, .slice (some ⟨bh, 0, none⟩) j j, .map (some bf), .bool false], .bool false]) (by simp [results, Try.results46, go_sem, zz0, zz1, zz2, zz3, zz4]; try rfl) rfl ?_
                            have hkk := FIN.out _ (((((((Keep.refl (fun i => i = w.heap.size) w5).setEq 0 (.int .i64 root)).setEq 1 (.slice (some ⟨bt, 0, none⟩) j j)).setEq 2 (.slice (some ⟨bh, 0, none⟩) j j)).setEq 3 (.map (some bf))).setEq 4 (.bool false)).drew)
                            rw [HRR.out]
                            exact ⟨head_out HOK2.out.1 HOK2.out.2.1 HRT.out HLE.out HV.out h4 hn hkk.1 hkk.2.1 hkk.2.2.1 LW.out.2.2.2.2.1 LW.out.2.1 LW.out.2.2.1 LW.out.2.2.2.1, hkk.2.2.2⟩
                          exact AllReadyH.nil
                        exact AllReadyH.nil
                      exact AllReadyH.nil
                    refine readyN rfl (fun K hK => ?_) ?_
                    · -- operation 5
                      go_simp
                      go_wp2_with (
                          first
                            | (refine load59 (.tmp 6) rfl b6 rfl _ _ _ _ _ (0, 0) HQ5.out ?_)
                            | (go_at_call 48; refine HHA.out.mono ?_; rintro e w9 ⟨rfl, rfl⟩))
                      refine hK.out _ _ ?_ (fun hHeld1 => ?_)
                      · (try dsimp only)
                        first | with_reducible exact D0.out | with_reducible exact CK.out _ (((((((Keep.refl _ _).setEq _ _).setEq _ _).setEq _ _).setEq _ _).setEq _ _).drew)
                      clear hK K hHeld0
                      try simp only [Act.put, List.setIfInBounds_toArray, List.set_cons_zero, List.set_cons_succ]
                      refine takeN (v := ?_) 6 rfl (by kernel_rfl) (by kernel_rfl) (by kernel_rfl) (fun _ _ _ h => h) (by rfl) ?_ hHeld1 ?_
                      rotate_left
                      · intro w hSw; (try dsimp only at hSw); go_simp; with_reducible rfl
                      try simp only [Act.put, List.setIfInBounds_toArray, List.set_cons_zero, List.set_cons_succ]
                      refine takeN (v := ?_) 7 rfl (by kernel_rfl) (by kernel_rfl) (by kernel_rfl) (fun _ _ _ h => h) (by rfl) ?_ hHeld1 ?_
                      rotate_left
                      · intro w hSw; (try dsimp only at hSw); go_simp; with_reducible rfl
                      try simp only [Act.put, List.setIfInBounds_toArray, List.set_cons_zero, List.set_cons_succ]
                      refine takeN (v := ?_) 8 rfl (by kernel_rfl) (by kernel_rfl) (by kernel_rfl) (fun _ _ _ h => h) (by rfl) ?_ hHeld1 ?_
                      rotate_left
                      · intro w hSw; (try dsimp only at hSw); go_simp; with_reducible rfl
                      try simp only [Act.put, List.setIfInBounds_toArray, List.set_cons_zero, List.set_cons_succ]
                      refine takeN (v := ?_) 9 rfl (by kernel_rfl) (by kernel_rfl) (by kernel_rfl) (fun _ _ _ h => h) (by rfl) ?_ hHeld1 ?_
                      rotate_left
                      · intro w hSw; (try dsimp only at hSw); go_simp; with_reducible rfl
                      try simp only [Act.put, List.setIfInBounds_toArray, List.set_cons_zero, List.set_cons_succ]
                      refine takeN (v := ?_) 10 rfl (by kernel_rfl) (by kernel_rfl) (by kernel_rfl) (fun _ _ _ h => h) (by rfl) ?_ hHeld1 ?_
                      rotate_left
                      · intro w hSw; (try dsimp only at hSw); go_simp; with_reducible rfl
                      try simp only [Act.put, List.setIfInBounds_toArray, List.set_cons_zero, List.set_cons_succ]
                      refine takeN (v := ?_) 11 rfl (by kernel_rfl) (by kernel_rfl) (by kernel_rfl) (fun _ _ _ h => h) (by rfl) ?_ hHeld1 ?_
                      rotate_left
                      · intro w hSw; (try dsimp only at hSw); go_simp; with_reducible rfl
                      try simp only [Act.put, List.setIfInBounds_toArray, List.set_cons_zero, List.set_cons_succ]
                      refine wpAnyH_ready (rs := [0, 12]) (by kernel_rfl) (by simp) ?_
                      refine readyN rfl (fun K hK => ?_) ?_
                      · -- operation 0
                        first
                          | (refine load59 (.tmp 6) rfl b6 rfl _ _ _ _ _ (0, 0) HQ5.out ?_)
                          | (go_at_call 48; refine HHA.out.mono ?_; rintro e w9 ⟨rfl, rfl⟩)
                        refine hK.out _ _ ?_ (fun hHeld2 => ?_)
                        · (try dsimp only)
                          first | with_reducible exact D0.out | with_reducible exact CK.out _ (((((((Keep.refl _ _).setEq _ _).setEq _ _).setEq _ _).setEq _ _).setEq _ _).drew)
                        clear hK K hHeld1
                        try simp only [Act.put, List.setIfInBounds_toArray, List.set_cons_zero, List.set_cons_succ]
                        refine wpAnyH_ready (rs := [12]) (by kernel_rfl) (by simp) ?_
                        refine readyN rfl (fun K hK => ?_) ?_
                        · -- operation 12
                          go_simp
                          go_wp2_with (
                              first
                                | (refine load59 (.tmp 6) rfl b6 rfl _ _ _ _ _ (0, 0) HQ5.out ?_)
                                | (go_at_call 48; refine HHA.out.mono ?_; rintro e w9 ⟨rfl, rfl⟩))
                          refine hK.out _ _ ?_ (fun hHeld3 => ?_)
                          · (try dsimp only)
                            first | with_reducible exact D0.out | with_reducible exact CK.out _ (((((((Keep.refl _ _).setEq _ _).setEq _ _).setEq _ _).setEq _ _).setEq _ _).drew)
                          clear hK K hHeld2
                          try simp only [Act.put, List.setIfInBounds_toArray, List.set_cons_zero, List.set_cons_succ]
                          refine takeN (v := ?_) 13 rfl (by kernel_rfl) (by kernel_rfl) (by kernel_rfl) (fun _ _ _ h => h) (by rfl) ?_ hHeld3 ?_
                          rotate_left
                          · intro w hSw; (try dsimp only at hSw); go_simp; with_reducible rfl
                          try simp only [Act.put, List.setIfInBounds_toArray, List.set_cons_zero, List.set_cons_succ]
                          refine takeN (v := ?_) 14 rfl (by kernel_rfl) (by kernel_rfl) (by kernel_rfl) (fun _ _ _ h => h) (by rfl) ?_ hHeld3 ?_
                          rotate_left
                          · intro w hSw; (try dsimp only at hSw); go_simp; with_reducible rfl
                          try simp only [Act.put, List.setIfInBounds_toArray, List.set_cons_zero, List.set_cons_succ]
                          refine takeN (v := ?_) 15 rfl (by kernel_rfl) (by kernel_rfl) (by kernel_rfl) (fun _ _ _ h => h) (by rfl) ?_ hHeld3 ?_
                          rotate_left
                          · intro w hSw; (try dsimp only at hSw); go_simp; with_reducible rfl
                          try simp only [Act.put, List.setIfInBounds_toArray, List.set_cons_zero, List.set_cons_succ]
                          refine takeN (v := ?_) 16 rfl (by kernel_rfl) (by kernel_rfl) (by kernel_rfl) (fun _ _ _ h => h) (by rfl) ?_ hHeld3 ?_
                          rotate_left
                          · intro w hSw; (try dsimp only at hSw); go_simp; with_reducible rfl
                          try simp only [Act.put, List.setIfInBounds_toArray, List.set_cons_zero, List.set_cons_succ]
                          refine skipN 17 rfl (by kernel_rfl) (by kernel_rfl) (by kernel_rfl) (fun _ _ _ h => h) (by rfl) hHeld3 ?_
                          try simp only [Act.put, List.setIfInBounds_toArray, List.set_cons_zero, List.set_cons_succ]
                          refine skipN 18 rfl (by kernel_rfl) (by kernel_rfl) (by kernel_rfl) (fun _ _ _ h => h) (by rfl) hHeld3 ?_
                          try simp only [Act.put, List.setIfInBounds_toArray, List.set_cons_zero, List.set_cons_succ]
                          refine skipN 19 rfl (by kernel_rfl) (by kernel_rfl) (by kernel_rfl) (fun _ _ _ h => h) (by rfl) hHeld3 ?_
                          try simp only [Act.put, List.setIfInBounds_toArray, List.set_cons_zero, List.set_cons_succ]
                          refine skipN 20 rfl (by kernel_rfl) (by kernel_rfl) (by kernel_rfl) (fun _ _ _ h => h) (by rfl) hHeld3 ?_
                          try simp only [Act.put, List.setIfInBounds_toArray, List.set_cons_zero, List.set_cons_succ]
                          refine skipN 21 rfl (by kernel_rfl) (by kernel_rfl) (by kernel_rfl) (fun _ _ _ h => h) (by rfl) hHeld3 ?_
                          try simp only [Act.put, List.setIfInBounds_toArray, List.set_cons_zero, List.set_cons_succ]
                          refine skipN 22 rfl (by kernel_rfl) (by kernel_rfl) (by kernel_rfl) (fun _ _ _ h => h) (by rfl) hHeld3 ?_
                          try simp only [Act.put, List.setIfInBounds_toArray, List.set_cons_zero, List.set_cons_succ]
                          refine skipN 23 rfl (by kernel_rfl) (by kernel_rfl) (by kernel_rfl) (fun _ _ _ h => h) (by rfl) hHeld3 ?_
                          try simp only [Act.put, List.setIfInBounds_toArray, List.set_cons_zero, List.set_cons_succ]
                          refine skipN 24 rfl (by kernel_rfl) (by kernel_rfl) (by kernel_rfl) (fun _ _ _ h => h) (by rfl) hHeld3 ?_
                          try simp only [Act.put, List.setIfInBounds_toArray, List.set_cons_zero, List.set_cons_succ]
                          refine takeN (v := ?_) 25 rfl (by kernel_rfl) (by kernel_rfl) (by kernel_rfl) (fun _ _ _ h => h) (by rfl) ?_ hHeld3 ?_
                          rotate_left
                          · intro w hSw; (try dsimp only at hSw); go_simp; with_reducible rfl
                          try simp only [Act.put, List.setIfInBounds_toArray, List.set_cons_zero, List.set_cons_succ]
                          refine wpAnyH_ready (rs := [26]) (by kernel_rfl) (by simp) ?_
                          refine readyN rfl (fun K hK => ?_) ?_
                          · -- operation 26
                            go_simp
                            refine hK.out _ _ ?_ (fun hHeld4 => ?_)
                            · (try dsimp only)
                              first | with_reducible exact D0.out | with_reducible exact CK.out _ (((((((Keep.refl _ _).setEq _ _).setEq _ _).setEq _ _).setEq _ _).setEq _ _).drew)
                            clear hK K hHeld3
                            try simp only [Act.put, List.setIfInBounds_toArray, List.set_cons_zero, List.set_cons_succ]
                            refine takeN (v := ?_) 27 rfl (by kernel_rfl) (by kernel_rfl) (by kernel_rfl) (fun _ _ _ h => h) (by rfl) ?_ hHeld4 ?_
                            rotate_left
                            · intro w hSw; (try dsimp only at hSw); go_simp; with_reducible rfl
                            try simp only [Act.put, List.setIfInBounds_toArray, List.set_cons_zero, List.set_cons_succ]
                            refine wpAnyH_done (by kernel_rfl) ?_ _
                            go_wp2_with fail
                            refine bodyPost_ret (v := .tuple #[.agg #[.int .i64 root, .slice (some ⟨bt, 0, none⟩) j j, .slice (some ⟨bh, 0, none⟩) j j, .map (some bf), .bool false], .bool false]) (by simp [results, Try.results46, go_sem, zz0, zz1, zz2, zz3, zz4]; try rfl) rfl ?_
                            have hkk := FIN.out _ (((((((Keep.refl (fun i => i = w.heap.size) w5).setEq 0 (.int .i64 root)).setEq 1 (.slice (some ⟨bt, 0, none⟩) j j)).setEq 2 (.slice (some ⟨bh, 0, none⟩) j j)).setEq 3 (.map (some bf))).setEq 4 (.bool false)).drew)
                            rw [HRR.out]
                            exact ⟨head_out HOK2.out.1 HOK2.out.2.1 HRT.out HLE.out HV.out h4 hn hkk.1 hkk.2.1 hkk.2.2.1 LW.out.2.2.2.2.1 LW.out.2.1 LW.out.2.2.1 LW.out.2.2.2.1, hkk.2.2.2⟩
                          exact AllReadyH.nil
                        exact AllReadyH.nil
                      refine readyN rfl (fun K hK => ?_) ?_
                      · -- operation 12
                        go_simp
                        go_wp2_with (
                            first
                              | (refine load59 (.tmp 6) rfl b6 rfl _ _ _ _ _ (0, 0) HQ5.out ?_)
                              | (go_at_call 48; refine HHA.out.mono ?_; rintro e w9 ⟨rfl, rfl⟩))
                        refine hK.out _ _ ?_ (fun hHeld2 => ?_)
                        · (try dsimp only)
                          first | with_reducible exact D0.out | with_reducible exact CK.out _ (((((((Keep.refl _ _).setEq _ _).setEq _ _).setEq _ _).setEq _ _).setEq _ _).drew)
                        clear hK K hHeld1
                        try simp only [Act.put, List.setIfInBounds_toArray, List.set_cons_zero, List.set_cons_succ]
                        refine takeN (v := ?_) 13 rfl (by kernel_rfl) (by kernel_rfl) (by kernel_rfl) (fun _ _ _ h => h) (by rfl) ?_ hHeld2 ?_
                        rotate_left
                        · intro w hSw; (try dsimp only at hSw); go_simp; with_reducible rfl
                        try simp only [Act.put, List.setIfInBounds_toArray, List.set_cons_zero, List.set_cons_succ]
                        refine takeN (v := ?_) 14 rfl (by kernel_rfl) (by kernel_rfl) (by kernel_rfl) (fun _ _ _ h => h) (by rfl) ?_ hHeld2 ?_
                        rotate_left
                        · intro w hSw; (try dsimp only at hSw); go_simp; with_reducible rfl
                        try simp only [Act.put, List.setIfInBounds_toArray, List.set_cons_zero, List.set_cons_succ]
                        refine takeN (v := ?_) 15 rfl (by kernel_rfl) (by kernel_rfl) (by kernel_rfl) (fun _ _ _ h => h) (by rfl) ?_ hHeld2 ?_
                        rotate_left
                        · intro w hSw; (try dsimp only at hSw); go_simp; with_reducible rfl
                        try simp only [Act.put, List.setIfInBounds_toArray, List.set_cons_zero, List.set_cons_succ]
                        refine takeN (v := ?_) 16 rfl (by kernel_rfl) (by kernel_rfl) (by kernel_rfl) (fun _ _ _ h => h) (by rfl) ?_ hHeld2 ?_
                        rotate_left
                        · intro w hSw; (try dsimp only at hSw); go_simp; with_reducible rfl
                        try simp only [Act.put, List.setIfInBounds_toArray, List.set_cons_zero, List.set_cons_succ]
                        refine skipN 17 rfl (by kernel_rfl) (by kernel_rfl) (by kernel_rfl) (fun _ _ _ h => h) (by rfl) hHeld2 ?_
                        try simp only [Act.put, List.setIfInBounds_toArray, List.set_cons_zero, List.set_cons_succ]
                        refine skipN 18 rfl (by kernel_rfl) (by kernel_rfl) (by kernel_rfl) (fun _ _ _ h => h) (by rfl) hHeld2 ?_
                        try simp only [Act.put, List.setIfInBounds_toArray, List.set_cons_zero, List.set_cons_succ]
                        refine skipN 19 rfl (by kernel_rfl) (by kernel_rfl) (by kernel_rfl) (fun _ _ _ h => h) (by rfl) hHeld2 ?_
                        try simp only [Act.put, List.setIfInBounds_toArray, List.set_cons_zero, List.set_cons_succ]
                        refine skipN 20 rfl (by kernel_rfl) (by kernel_rfl) (by kernel_rfl) (fun _ _ _ h => h) (by rfl) hHeld2 ?_
                        try simp only [Act.put, List.setIfInBounds_toArray, List.set_cons_zero, List.set_cons_succ]
                        refine skipN 21 rfl (by kernel_rfl) (by kernel_rfl) (by kernel_rfl) (fun _ _ _ h => h) (by rfl) hHeld2 ?_
                        try simp only [Act.put, List.setIfInBounds_toArray, List.set_cons_zero, List.set_cons_succ]
                        refine skipN 22 rfl (by kernel_rfl) (by kernel_rfl) (by kernel_rfl) (fun _ _ _ h => h) (by rfl) hHeld2 ?_
                        try simp only [Act.put, List.setIfInBounds_toArray, List.set_cons_zero, List.set_cons_succ]
                        refine skipN 23 rfl (by kernel_rfl) (by kernel_rfl) (by kernel_rfl) (fun _ _ _ h => h) (by rfl) hHeld2 ?_
                        try simp only [Act.put, List.setIfInBounds_toArray, List.set_cons_zero, List.set_cons_succ]
                        refine skipN 24 rfl (by kernel_rfl) (by kernel_rfl) (by kernel_rfl) (fun _ _ _ h => h) (by rfl) hHeld2 ?_
                        try simp only [Act.put, List.setIfInBounds_toArray, List.set_cons_zero, List.set_cons_succ]
                        refine takeN (v := ?_) 25 rfl (by kernel_rfl) (by kernel_rfl) (by kernel_rfl) (fun _ _ _ h => h) (by rfl) ?_ hHeld2 ?_
                        rotate_left
                        · intro w hSw; (try dsimp only at hSw); go_simp; with_reducible rfl
                        try simp only [Act.put, List.setIfInBounds_toArray, List.set_cons_zero, List.set_cons_succ]
                        refine wpAnyH_ready (rs := [0]) (by kernel_rfl) (by simp) ?_
                        refine readyN rfl (fun K hK => ?_) ?_
                        · -- operation 0
                          first
                            | (refine load59 (.tmp 6) rfl b6 rfl _ _ _ _ _ (0, 0) HQ5.out ?_)
                            | (go_at_call 48; refine HHA.out.mono ?_; rintro e w9 ⟨rfl, rfl⟩)
                          refine hK.out _ _ ?_ (fun hHeld3 => ?_)
                          · (try dsimp only)
                            first | with_reducible exact D0.out | with_reducible exact CK.out _ (((((((Keep.refl _ _).setEq _ _).setEq _ _).setEq _ _).setEq _ _).setEq _ _).drew)
                          clear hK K hHeld2
                          try simp only [Act.put, List.setIfInBounds_toArray, List.set_cons_zero, List.set_cons_succ]
                          refine wpAnyH_ready (rs := [26]) (by kernel_rfl) (by simp) ?_
                          refine readyN rfl (fun K hK => ?_) ?_
                          · -- operation 26
                            go_simp
                            refine hK.out _ _ ?_ (fun hHeld4 => ?_)
                            · (try dsimp only)
                              first | with_reducible exact D0.out | with_reducible exact CK.out _ (((((((Keep.refl _ _).setEq _ _).setEq _ _).setEq _ _).setEq _ _).setEq _ _).drew)
                            clear hK K hHeld3
                            try simp only [Act.put, List.setIfInBounds_toArray, List.set_cons_zero, List.set_cons_succ]
                            refine takeN (v := ?_) 27 rfl (by kernel_rfl) (by kernel_rfl) (by kernel_rfl) (fun _ _ _ h => h) (by rfl) ?_ hHeld4 ?_
                            rotate_left
                            · intro w hSw; (try dsimp only at hSw); go_simp; with_reducible rfl
                            try simp only [Act.put, List.setIfInBounds_toArray, List.set_cons_zero, List.set_cons_succ]
                            refine wpAnyH_done (by kernel_rfl) ?_ _
                            go_wp2_with fail
                            refine bodyPost_ret (v := .tuple #[.agg #[.int .i64 root, .slice (some ⟨bt, 0, none⟩) j j, .slice (some ⟨bh, 0, none⟩) j j, .map (some bf), .bool false], .bool false]) (by simp [results, Try.results46, go_sem, zz0, zz1, zz2, zz3, zz4]; try rfl) rfl ?_
                            have hkk := FIN.out _ (((((((Keep.refl (fun i => i = w.heap.size) w5).setEq 0 (.int .i64 root)).setEq 1 (.slice (some ⟨bt, 0, none⟩) j j)).setEq 2 (.slice (some ⟨bh, 0, none⟩) j j)).setEq 3 (.map (some bf))).setEq 4 (.bool false)).drew)
                            rw [HRR.out]
                            exact ⟨head_out HOK2.out.1 HOK2.out.2.1 HRT.out HLE.out HV.out h4 hn hkk.1 hkk.2.1 hkk.2.2.1 LW.out.2.2.2.2.1 LW.out.2.1 LW.out.2.2.1 LW.out.2.2.2.1, hkk.2.2.2⟩
                          exact AllReadyH.nil
                        exact AllReadyH.nil
                      exact AllReadyH.nil
                    exact AllReadyH.nil
                  | false =>
                    by_cases hr0 : root = 0
                    · subst hr0
                      have HV := Lib.hid (show okB b j = true by rw [HOV.out]; rfl)
                      refine wp_region_held_drew (S := (fun w' => (w'.cell? ⟨b6, 0, none⟩ = some (.int .i64 0) ∧ w'.cell? ⟨b6, 1, none⟩ = some (.slice (some ⟨bt, 0, none⟩) j j) ∧ w'.cell? ⟨b6, 2, none⟩ = some (.slice (some ⟨bh, 0, none⟩) j j) ∧ w'.cell? ⟨b6, 3, none⟩ = some (.map (some bf)) ∧ w'.cell? ⟨b6, 4, none⟩ = some (.bool false)) ∧ w'.cell? ⟨bt, 0, none⟩ = some (.bool false) ∧ w'.cell? ⟨bt, 1, none⟩ = some (.bool false))) (by kernel_rfl) ?_ (fun hHeld0 => ?_)
                      · (try dsimp only)
                        first | with_reducible exact D0.out | with_reducible exact CK.out _ (((((((Keep.refl _ _).setEq _ _).setEq _ _).setEq _ _).setEq _ _).setEq _ _).drew)
                      refine takeN (v := ?_) 1 rfl (by kernel_rfl) (by kernel_rfl) (by kernel_rfl) (fun _ _ _ h => h) (by rfl) ?_ hHeld0 ?_
                      rotate_left
                      · intro w hSw; (try dsimp only at hSw); go_simp; with_reducible rfl
                      try simp only [Act.put, List.setIfInBounds_toArray, List.set_cons_zero, List.set_cons_succ]
                      refine takeN (v := ?_) 2 rfl (by kernel_rfl) (by kernel_rfl) (by kernel_rfl) (fun _ _ _ h => h) (by rfl) ?_ hHeld0 ?_
                      rotate_left
                      · intro w hSw; (try dsimp only at hSw); go_simp; with_reducible rfl
                      try simp only [Act.put, List.setIfInBounds_toArray, List.set_cons_zero, List.set_cons_succ]
                      refine takeN (v := ?_) 3 rfl (by kernel_rfl) (by kernel_rfl) (by kernel_rfl) (fun _ _ _ h => h) (by rfl) ?_ hHeld0 ?_
                      rotate_left
                      · intro w hSw; (try dsimp only at hSw); go_simp; with_reducible rfl
                      try simp only [Act.put, List.setIfInBounds_toArray, List.set_cons_zero, List.set_cons_succ]
                      refine takeN (v := ?_) 4 rfl (by kernel_rfl) (by kernel_rfl) (by kernel_rfl) (fun _ _ _ h => h) (by rfl) ?_ hHeld0 ?_
                      rotate_left
                      · intro w hSw; (try dsimp only at hSw); go_simp; with_reducible rfl
                      try simp only [Act.put, List.setIfInBounds_toArray, List.set_cons_zero, List.set_cons_succ]
                      refine wpAnyH_ready (rs := [0, 5]) (by kernel_rfl) (by simp) ?_
                      refine readyN rfl (fun K hK => ?_) ?_
                      · -- operation 0
                        first
                          | (refine load59 (.tmp 6) rfl b6 rfl _ _ _ _ _ (0, 0) HQ5.out ?_)
                          | (go_at_call 48; refine HHA.out.mono ?_; rintro e w9 ⟨rfl, rfl⟩)
                        refine hK.out _ _ ?_ (fun hHeld1 => ?_)
                        · (try dsimp only)
                          first | with_reducible exact D0.out | with_reducible exact CK.out _ (((((((Keep.refl _ _).setEq _ _).setEq _ _).setEq _ _).setEq _ _).setEq _ _).drew)
                        clear hK K hHeld0
                        try simp only [Act.put, List.setIfInBounds_toArray, List.set_cons_zero, List.set_cons_succ]
                        refine wpAnyH_ready (rs := [5]) (by kernel_rfl) (by simp) ?_
                        refine readyN rfl (fun K hK => ?_) ?_
                        · -- operation 5
                          go_simp
                          go_wp2_with (
                              first
                                | (refine load59 (.tmp 6) rfl b6 rfl _ _ _ _ _ (0, 0) HQ5.out ?_)
                                | (go_at_call 48; refine HHA.out.mono ?_; rintro e w9 ⟨rfl, rfl⟩))
                          refine hK.out _ _ ?_ (fun hHeld2 => ?_)
                          · (try dsimp only)
                            first | with_reducible exact D0.out | with_reducible exact CK.out _ (((((((Keep.refl _ _).setEq _ _).setEq _ _).setEq _ _).setEq _ _).setEq _ _).drew)
                          clear hK K hHeld1
                          try simp only [Act.put, List.setIfInBounds_toArray, List.set_cons_zero, List.set_cons_succ]
                          refine takeN (v := ?_) 6 rfl (by kernel_rfl) (by kernel_rfl) (by kernel_rfl) (fun _ _ _ h => h) (by rfl) ?_ hHeld2 ?_
                          rotate_left
                          · intro w hSw; (try dsimp only at hSw); go_simp; with_reducible rfl
                          try simp only [Act.put, List.setIfInBounds_toArray, List.set_cons_zero, List.set_cons_succ]
                          refine takeN (v := ?_) 7 rfl (by kernel_rfl) (by kernel_rfl) (by kernel_rfl) (fun _ _ _ h => h) (by rfl) ?_ hHeld2 ?_
                          rotate_left
                          · intro w hSw; (try dsimp only at hSw); go_simp; with_reducible rfl
                          try simp only [Act.put, List.setIfInBounds_toArray, List.set_cons_zero, List.set_cons_succ]
                          refine takeN (v := ?_) 8 rfl (by kernel_rfl) (by kernel_rfl) (by kernel_rfl) (fun _ _ _ h => h) (by rfl) ?_ hHeld2 ?_
                          rotate_left
                          · intro w hSw; (try dsimp only at hSw); go_simp; with_reducible rfl
                          try simp only [Act.put, List.setIfInBounds_toArray, List.set_cons_zero, List.set_cons_succ]
                          refine takeN (v := ?_) 9 rfl (by kernel_rfl) (by kernel_rfl) (by kernel_rfl) (fun _ _ _ h => h) (by rfl) ?_ hHeld2 ?_
                          rotate_left
                          · intro w hSw; (try dsimp only at hSw); go_simp; with_reducible rfl
                          try simp only [Act.put, List.setIfInBounds_toArray, List.set_cons_zero, List.set_cons_succ]
                          refine takeN (v := ?_) 10 rfl (by kernel_rfl) (by kernel_rfl) (by kernel_rfl) (fun _ _ _ h => h) (by rfl) ?_ hHeld2 ?_
                          rotate_left
                          · intro w hSw; (try dsimp only at hSw); go_simp; with_reducible rfl
                          try simp only [Act.put, List.setIfInBounds_toArray, List.set_cons_zero, List.set_cons_succ]
                          refine takeN (v := ?_) 11 rfl (by kernel_rfl) (by kernel_rfl) (by kernel_rfl) (fun _ _ _ h => h) (by rfl) ?_ hHeld2 ?_
                          rotate_left
                          · intro w hSw; (try dsimp only at hSw); go_simp; with_reducible rfl
                          try simp only [Act.put, List.setIfInBounds_toArray, List.set_cons_zero, List.set_cons_succ]
                          refine wpAnyH_ready (rs := [12]) (by kernel_rfl) (by simp) ?_
                          refine readyN rfl (fun K hK => ?_) ?_
                          · -- operation 12
                            go_simp
                            go_wp2_with (
                                first
                                  | (refine load59 (.tmp 6) rfl b6 rfl _ _ _ _ _ (0, 0) HQ5.out ?_)
                                  | (go_at_call 48; refine HHA.out.mono ?_; rintro e w9 ⟨rfl, rfl⟩))
                            refine hK.out _ _ ?_ (fun hHeld3 => ?_)
                            · (try dsimp only)
                              first | with_reducible exact D0.out | with_reducible exact CK.out _ (((((((Keep.refl _ _).setEq _ _).setEq _ _).setEq _ _).setEq _ _).setEq _ _).drew)
                            clear hK K hHeld2
                            try simp only [Act.put, List.setIfInBounds_toArray, List.set_cons_zero, List.set_cons_succ]
                            refine takeN (v := ?_) 13 rfl (by kernel_rfl) (by kernel_rfl) (by kernel_rfl) (fun _ _ _ h => h) (by rfl) ?_ hHeld3 ?_
                            rotate_left
                            · intro w hSw; (try dsimp only at hSw); go_simp; with_reducible rfl
                            try simp only [Act.put, List.setIfInBounds_toArray, List.set_cons_zero, List.set_cons_succ]
                            refine takeN (v := ?_) 14 rfl (by kernel_rfl) (by kernel_rfl) (by kernel_rfl) (fun _ _ _ h => h) (by rfl) ?_ hHeld3 ?_
                            rotate_left
                            · intro w hSw; (try dsimp only at hSw); go_simp; with_reducible rfl
                            try simp only [Act.put, List.setIfInBounds_toArray, List.set_cons_zero, List.set_cons_succ]
                            refine takeN (v := ?_) 15 rfl (by kernel_rfl) (by kernel_rfl) (by kernel_rfl) (fun _ _ _ h => h) (by rfl) ?_ hHeld3 ?_
                            rotate_left
                            · intro w hSw; (try dsimp only at hSw); go_simp; with_reducible rfl
                            try simp only [Act.put, List.setIfInBounds_toArray, List.set_cons_zero, List.set_cons_succ]
                            refine takeN (v := ?_) 16 rfl (by kernel_rfl) (by kernel_rfl) (by kernel_rfl) (fun _ _ _ h => h) (by rfl) ?_ hHeld3 ?_
                            rotate_left
                            · intro w hSw; (try dsimp only at hSw); go_simp; with_reducible rfl
                            try simp only [Act.put, List.setIfInBounds_toArray, List.set_cons_zero, List.set_cons_succ]
                            refine takeN (v := ?_) 17 rfl (by kernel_rfl) (by kernel_rfl) (by kernel_rfl) (fun _ _ _ h => h) (by rfl) ?_ hHeld3 ?_
                            rotate_left
                            · intro w hSw; (try dsimp only at hSw); go_simp; with_reducible rfl
                            try simp only [Act.put, List.setIfInBounds_toArray, List.set_cons_zero, List.set_cons_succ]
                            refine takeN (v := ?_) 18 rfl (by kernel_rfl) (by kernel_rfl) (by kernel_rfl) (fun _ _ _ h => h) (by rfl) ?_ hHeld3 ?_
                            rotate_left
                            · intro w hSw; (try dsimp only at hSw); go_simp; with_reducible rfl
                            try simp only [Act.put, List.setIfInBounds_toArray, List.set_cons_zero, List.set_cons_succ]
                            refine takeN (v := ?_) 19 rfl (by kernel_rfl) (by kernel_rfl) (by kernel_rfl) (fun _ _ _ h => h) (by rfl) ?_ hHeld3 ?_
                            rotate_left
                            · intro w hSw; (try dsimp only at hSw); go_simp; with_reducible rfl
                            try simp only [Act.put, List.setIfInBounds_toArray, List.set_cons_zero, List.set_cons_succ]
                            refine takeN (v := ?_) 20 rfl (by kernel_rfl) (by kernel_rfl) (by kernel_rfl) (fun _ _ _ h => h) (by rfl) ?_ hHeld3 ?_
                            rotate_left
                            · intro w hSw; (try dsimp only at hSw); go_simp; with_reducible rfl
                            try simp only [Act.put, List.setIfInBounds_toArray, List.set_cons_zero, List.set_cons_succ]
                            refine skipN 21 rfl (by kernel_rfl) (by kernel_rfl) (by kernel_rfl) (fun _ _ _ h => h) (by rfl) hHeld3 ?_
                            try simp only [Act.put, List.setIfInBounds_toArray, List.set_cons_zero, List.set_cons_succ]
                            refine skipN 22 rfl (by kernel_rfl) (by kernel_rfl) (by kernel_rfl) (fun _ _ _ h => h) (by rfl) hHeld3 ?_
                            try simp only [Act.put, List.setIfInBounds_toArray, List.set_cons_zero, List.set_cons_succ]
                            refine skipN 23 rfl (by kernel_rfl) (by kernel_rfl) (by kernel_rfl) (fun _ _ _ h => h) (by rfl) hHeld3 ?_
                            try simp only [Act.put, List.setIfInBounds_toArray, List.set_cons_zero, List.set_cons_succ]
                            refine takeN (v := ?_) 24 rfl (by kernel_rfl) (by kernel_rfl) (by kernel_rfl) (fun _ _ _ h => h) (by rfl) ?_ hHeld3 ?_
                            rotate_left
                            · intro w hSw; (try dsimp only at hSw); go_simp; with_reducible rfl
                            try simp only [Act.put, List.setIfInBounds_toArray, List.set_cons_zero, List.set_cons_succ]
                            refine takeN (v := ?_) 25 rfl (by kernel_rfl) (by kernel_rfl) (by kernel_rfl) (fun _ _ _ h => h) (by rfl) ?_ hHeld3 ?_
                            rotate_left
                            · intro w hSw; (try dsimp only at hSw); go_simp; with_reducible rfl
                            try simp only [Act.put, List.setIfInBounds_toArray, List.set_cons_zero, List.set_cons_succ]
                            refine wpAnyH_ready (rs := [26]) (by kernel_rfl) (by simp) ?_
                            refine readyN rfl (fun K hK => ?_) ?_
                            · -- operation 26
                              go_simp
                              refine hK.out _ _ ?_ (fun hHeld4 => ?_)
                              · (try dsimp only)
                                first | with_reducible exact D0.out | with_reducible exact CK.out _ (((((((Keep.refl _ _).setEq _ _).setEq _ _).setEq _ _).setEq _ _).setEq _ _).drew)
                              clear hK K hHeld3
                              try simp only [Act.put, List.setIfInBounds_toArray, List.set_cons_zero, List.set_cons_succ]
                              refine takeN (v := ?_) 27 rfl (by kernel_rfl) (by kernel_rfl) (by kernel_rfl) (fun _ _ _ h => h) (by rfl) ?_ hHeld4 ?_
                              rotate_left
                              · intro w hSw; (try dsimp only at hSw); go_simp; with_reducible rfl
                              try simp only [Act.put, List.setIfInBounds_toArray, List.set_cons_zero, List.set_cons_succ]
                              refine wpAnyH_done (by kernel_rfl) ?_ _
                              go_wp2_with fail
                              refine bodyPost_ret (v := .tuple #[.agg #[.int .i64 0, .slice (some ⟨bt, 0, none⟩) j j, .slice (some ⟨bh, 0, none⟩) j j, .map (some bf), .bool false], .bool true]) (by simp [results, Try.results46, go_sem, zz0, zz1, zz2, zz3, zz4]; try rfl) rfl ?_
                              have hkk := FIN.out _ (((((((Keep.refl (fun i => i = w.heap.size) w5).setEq 0 (.int .i64 0)).setEq 1 (.slice (some ⟨bt, 0, none⟩) j j)).setEq 2 (.slice (some ⟨bh, 0, none⟩) j j)).setEq 3 (.map (some bf))).setEq 4 (.bool false)).drew)
                              rw [HRR.out]
                              exact ⟨head_out HOK2.out.1 HOK2.out.2.1 HRT.out HLE.out HV.out h4 hn hkk.1 hkk.2.1 hkk.2.2.1 LW.out.2.2.2.2.1 LW.out.2.1 LW.out.2.2.1 LW.out.2.2.2.1, hkk.2.2.2⟩
                            exact AllReadyH.nil
                          exact AllReadyH.nil
                        exact AllReadyH.nil
                      refine readyN rfl (fun K hK => ?_) ?_
                      · -- operation 5
                        go_simp
                        go_wp2_with (
                            first
                              | (refine load59 (.tmp 6) rfl b6 rfl _ _ _ _ _ (0, 0) HQ5.out ?_)
                              | (go_at_call 48; refine HHA.out.mono ?_; rintro e w9 ⟨rfl, rfl⟩))
                        refine hK.out _ _ ?_ (fun hHeld1 => ?_)
                        · (try dsimp only)
                          first | with_reducible exact D0.out | with_reducible exact CK.out _ (((((((Keep.refl _ _).setEq _ _).setEq _ _).setEq _ _).setEq _ _).setEq _ _).drew)
                        clear hK K hHeld0
                        try simp only [Act.put, List.setIfInBounds_toArray, List.set_cons_zero, List.set_cons_succ]
                        refine takeN (v := ?_) 6 rfl (by kernel_rfl) (by kernel_rfl) (by kernel_rfl) (fun _ _ _ h => h) (by rfl) ?_ hHeld1 ?_
                        rotate_left
                        · intro w hSw; (try dsimp only at hSw); go_simp; with_reducible rfl
                        try simp only [Act.put, List.setIfInBounds_toArray, List.set_cons_zero, List.set_cons_succ]
                        refine takeN (v := ?_) 7 rfl (by kernel_rfl) (by kernel_rfl) (by kernel_rfl) (fun _ _ _ h => h) (by rfl) ?_ hHeld1 ?_
                        rotate_left
                        · intro w hSw; (try dsimp only at hSw); go_simp; with_reducible rfl
                        try simp only [Act.put, List.setIfInBounds_toArray, List.set_cons_zero, List.set_cons_succ]
                        refine takeN (v := ?_) 8 rfl (by kernel_rfl) (by kernel_rfl) (by kernel_rfl) (fun _ _ _ h => h) (by rfl) ?_ hHeld1 ?_
                        rotate_left
                        · intro w hSw; (try dsimp only at hSw); go_simp; with_reducible rfl
                        try simp only [Act.put, List.setIfInBounds_toArray, List.set_cons_zero, List.set_cons_succ]
                        refine takeN (v := ?_) 9 rfl (by kernel_rfl) (by kernel_rfl) (by kernel_rfl) (fun _ _ _ h => h) (by rfl) ?_ hHeld1 ?_
                        rotate_left
                        · intro w hSw; (try dsimp only at hSw); go_simp; with_reducible rfl
                        try simp only [Act.put, List.setIfInBounds_toArray, List.set_cons_zero, List.set_cons_succ]
                        refine takeN (v := ?_) 10 rfl (by kernel_rfl) (by kernel_rfl) (by kernel_rfl) (fun _ _ _ h => h) (by rfl) ?_ hHeld1 ?_
                        rotate_left
                        · intro w hSw; (try dsimp only at hSw); go_simp; with_reducible rfl
                        try simp only [Act.put, List.setIfInBounds_toArray, List.set_cons_zero, List.set_cons_succ]
                        refine takeN (v := ?_) 11 rfl (by kernel_rfl) (by kernel_rfl) (by kernel_rfl) (fun _ _ _ h => h) (by rfl) ?_ hHeld1 ?_
                        rotate_left
                        · intro w hSw; (try dsimp only at hSw); go_simp; with_reducible rfl
                        try simp only [Act.put, List.setIfInBounds_toArray, List.set_cons_zero, List.set_cons_succ]
                        refine wpAnyH_ready (rs := [0, 12]) (by kernel_rfl) (by simp) ?_
                        refine readyN rfl (fun K hK => ?_) ?_
                        · -- operation 0
                          first
                            | (refine load59 (.tmp 6) rfl b6 rfl _ _ _ _ _ (0, 0) HQ5.out ?_)
                            | (go_at_call 48; refine HHA.out.mono ?_; rintro e w9 ⟨rfl, rfl⟩)
                          refine hK.out _ _ ?_ (fun hHeld2 => ?_)
                          · (try dsimp only)
                            first | with_reducible exact D0.out | with_reducible exact CK.out _ (((((((Keep.refl _ _).setEq _ _).setEq _ _).setEq _ _).setEq _ _).setEq _ _).drew)
                          clear hK K hHeld1
                          try simp only [Act.put, List.setIfInBounds_toArray, List.set_cons_zero, List.set_cons_succ]
                          refine wpAnyH_ready (rs := [12]) (by kernel_rfl) (by simp) ?_
                          refine readyN rfl (fun K hK => ?_) ?_
                          · -- operation 12
                            go_simp
                            go_wp2_with (
                                first
                                  | (refine load59 (.tmp 6) rfl b6 rfl _ _ _ _ _ (0, 0) HQ5.out ?_)
                                  | (go_at_call 48; refine HHA.out.mono ?_; rintro e w9 ⟨rfl, rfl⟩))
                            refine hK.out _ _ ?_ (fun hHeld3 => ?_)
                            · (try dsimp only)
                              first | with_reducible exact D0.out | with_reducible exact CK.out _ (((((((Keep.refl _ _).setEq _ _).setEq _ _).setEq _ _).setEq _ _).setEq _ _).drew)
                            clear hK K hHeld2
                            try simp only [Act.put, List.setIfInBounds_toArray, List.set_cons_zero, List.set_cons_succ]
                            refine takeN (v := ?_) 13 rfl (by kernel_rfl) (by kernel_rfl) (by kernel_rfl) (fun _ _ _ h => h) (by rfl) ?_ hHeld3 ?_
                            rotate_left
                            · intro w hSw; (try dsimp only at hSw); go_simp; with_reducible rfl
                            try simp only [Act.put, List.setIfInBounds_toArray, List.set_cons_zero, List.set_cons_succ]
                            refine takeN (v := ?_) 14 rfl (by kernel_rfl) (by kernel_rfl) (by kernel_rfl) (fun _ _ _ h => h) (by rfl) ?_ hHeld3 ?_
                            rotate_left
                            · intro w hSw; (try dsimp only at hSw); go_simp; with_reducible rfl
                            try simp only [Act.put, List.setIfInBounds_toArray, List.set_cons_zero, List.set_cons_succ]
                            refine takeN (v := ?_) 15 rfl (by kernel_rfl) (by kernel_rfl) (by kernel_rfl) (fun _ _ _ h => h) (by rfl) ?_ hHeld3 ?_
                            rotate_left
                            · intro w hSw; (try dsimp only at hSw); go_simp; with_reducible rfl
                            try simp only [Act.put, List.setIfInBounds_toArray, List.set_cons_zero, List.set_cons_succ]
                            refine takeN (v := ?_) 16 rfl (by kernel_rfl) (by kernel_rfl) (by kernel_rfl) (fun _ _ _ h => h) (by rfl) ?_ hHeld3 ?_
                            rotate_left
                            · intro w hSw; (try dsimp only at hSw); go_simp; with_reducible rfl
                            try simp only [Act.put, List.setIfInBounds_toArray, List.set_cons_zero, List.set_cons_succ]
                            refine takeN (v := ?_) 17 rfl (by kernel_rfl) (by kernel_rfl) (by kernel_rfl) (fun _ _ _ h => h) (by rfl) ?_ hHeld3 ?_
                            rotate_left
                            · intro w hSw; (try dsimp only at hSw); go_simp; with_reducible rfl
                            try simp only [Act.put, List.setIfInBounds_toArray, List.set_cons_zero, List.set_cons_succ]
                            refine takeN (v := ?_) 18 rfl (by kernel_rfl) (by kernel_rfl) (by kernel_rfl) (fun _ _ _ h => h) (by rfl) ?_ hHeld3 ?_
                            rotate_left
                            · intro w hSw; (try dsimp only at hSw); go_simp; with_reducible rfl
                            try simp only [Act.put, List.setIfInBounds_toArray, List.set_cons_zero, List.set_cons_succ]
                            refine takeN (v := ?_) 19 rfl (by kernel_rfl) (by kernel_rfl) (by kernel_rfl) (fun _ _ _ h => h) (by rfl) ?_ hHeld3 ?_
                            rotate_left
                            · intro w hSw; (try dsimp only at hSw); go_simp; with_reducible rfl
                            try simp only [Act.put, List.setIfInBounds_toArray, List.set_cons_zero, List.set_cons_succ]
                            refine takeN (v := ?_) 20 rfl (by kernel_rfl) (by kernel_rfl) (by kernel_rfl) (fun _ _ _ h => h) (by rfl) ?_ hHeld3 ?_
                            rotate_left
                            · intro w hSw; (try dsimp only at hSw); go_simp; with_reducible rfl
                            try simp only [Act.put, List.setIfInBounds_toArray, List.set_cons_zero, List.set_cons_succ]
                            refine skipN 21 rfl (by kernel_rfl) (by kernel_rfl) (by kernel_rfl) (fun _ _ _ h => h) (by rfl) hHeld3 ?_
                            try simp only [Act.put, List.setIfInBounds_toArray, List.set_cons_zero, List.set_cons_succ]
                            refine skipN 22 rfl (by kernel_rfl) (by kernel_rfl) (by kernel_rfl) (fun _ _ _ h => h) (by rfl) hHeld3 ?_
                            try simp only [Act.put, List.setIfInBounds_toArray, List.set_cons_zero, List.set_cons_succ]
                            refine skipN 23 rfl (by kernel_rfl) (by kernel_rfl) (by kernel_rfl) (fun _ _ _ h => h) (by rfl) hHeld3 ?_
                            try simp only [Act.put, List.setIfInBounds_toArray, List.set_cons_zero, List.set_cons_succ]
                            refine takeN (v := ?_) 24 rfl (by kernel_rfl) (by kernel_rfl) (by kernel_rfl) (fun _ _ _ h => h) (by rfl) ?_ hHeld3 ?_
                            rotate_left
                            · intro w hSw; (try dsimp only at hSw); go_simp; with_reducible rfl
                            try simp only [Act.put, List.setIfInBounds_toArray, List.set_cons_zero, List.set_cons_succ]
                            refine takeN (v := ?_) 25 rfl (by kernel_rfl) (by kernel_rfl) (by kernel_rfl) (fun _ _ _ h => h) (by rfl) ?_ hHeld3 ?_
                            rotate_left
                            · intro w hSw; (try dsimp only at hSw); go_simp; with_reducible rfl
                            try simp only [Act.put, List.setIfInBounds_toArray, List.set_cons_zero, List.set_cons_succ]
                            refine wpAnyH_ready (rs := [26]) (by kernel_rfl) (by simp) ?_
                            refine readyN rfl (fun K hK => ?_) ?_
                            · -- operation 26
                              go_simp
                              refine hK.out _ _ ?_ (fun hHeld4 => ?_)
                              · (try dsimp only)
                                first | with_reducible exact D0.out | with_reducible exact CK.out _ (((((((Keep.refl _ _).setEq _ _).setEq _ _).setEq _ _).setEq _ _).setEq _ _).drew)
                              clear hK K hHeld3
                              try simp only [Act.put, List.setIfInBounds_toArray, List.set_cons_zero, List.set_cons_succ]
                              refine takeN (v := ?_) 27 rfl (by kernel_rfl) (by kernel_rfl) (by kernel_rfl) (fun _ _ _ h => h) (by rfl) ?_ hHeld4 ?_
                              rotate_left
                              · intro w hSw; (try dsimp only at hSw); go_simp; with_reducible rfl
                              try simp only [Act.put, List.setIfInBounds_toArray, List.set_cons_zero, List.set_cons_succ]
                              refine wpAnyH_done (by kernel_rfl) ?_ _
                              go_wp2_with fail
                              refine bodyPost_ret (v := .tuple #[.agg #[.int .i64 0, .slice (some ⟨bt, 0, none⟩) j j, .slice (some ⟨bh, 0, none⟩) j j, .map (some bf), .bool false], .bool true]) (by simp [results, Try.results46, go_sem, zz0, zz1, zz2, zz3, zz4]; try rfl) rfl ?_
                              have hkk := FIN.out _ (((((((Keep.refl (fun i => i = w.heap.size) w5).setEq 0 (.int .i64 0)).setEq 1 (.slice (some ⟨bt, 0, none⟩) j j)).setEq 2 (.slice (some ⟨bh, 0, none⟩) j j)).setEq 3 (.map (some bf))).setEq 4 (.bool false)).drew)
                              rw [HRR.out]
                              exact ⟨head_out HOK2.out.1 HOK2.out.2.1 HRT.out HLE.out HV.out h4 hn hkk.1 hkk.2.1 hkk.2.2.1 LW.out.2.2.2.2.1 LW.out.2.1 LW.out.2.2.1 LW.out.2.2.2.1, hkk.2.2.2⟩
                            exact AllReadyH.nil
                          exact AllReadyH.nil
                        refine readyN rfl (fun K hK => ?_) ?_
                        · -- operation 12
                          go_simp
                          go_wp2_with (
                              first
                                | (refine load59 (.tmp 6) rfl b6 rfl _ _ _ _ _ (0, 0) HQ5.out ?_)
                                | (go_at_call 48; refine HHA.out.mono ?_; rintro e w9 ⟨rfl, rfl⟩))
                          refine hK.out _ _ ?_ (fun hHeld2 => ?_)
                          · (try dsimp only)
                            first | with_reducible exact D0.out | with_reducible exact CK.out _ (((((((Keep.refl _ _).setEq _ _).setEq _ _).setEq _ _).setEq _ _).setEq _ _).drew)
                          clear hK K hHeld1
                          try simp only [Act.put, List.setIfInBounds_toArray, List.set_cons_zero, List.set_cons_succ]
                          refine takeN (v := ?_) 13 rfl (by kernel_rfl) (by kernel_rfl) (by kernel_rfl) (fun _ _ _ h => h) (by rfl) ?_ hHeld2 ?_
                          rotate_left
                          · intro w hSw; (try dsimp only at hSw); go_simp; with_reducible rfl
                          try simp only [Act.put, List.setIfInBounds_toArray, List.set_cons_zero, List.set_cons_succ]
                          refine takeN (v := ?_) 14 rfl (by kernel_rfl) (by kernel_rfl) (by kernel_rfl) (fun _ _ _ h => h) (by rfl) ?_ hHeld2 ?_
                          rotate_left
                          · intro w hSw; (try dsimp only at hSw); go_simp; with_reducible rfl
                          try simp only [Act.put, List.setIfInBounds_toArray, List.set_cons_zero, List.set_cons_succ]
                          refine takeN (v := ?_) 15 rfl (by kernel_rfl) (by kernel_rfl) (by kernel_rfl) (fun _ _ _ h => h) (by rfl) ?_ hHeld2 ?_
                          rotate_left
                          · intro w hSw; (try dsimp only at hSw); go_simp; with_reducible rfl
                          try simp only [Act.put, List.setIfInBounds_toArray, List.set_cons_zero, List.set_cons_succ]
                          refine takeN (v := ?_) 16 rfl (by kernel_rfl) (by kernel_rfl) (by kernel_rfl) (fun _ _ _ h => h) (by rfl) ?_ hHeld2 ?_
                          rotate_left
                          · intro w hSw; (try dsimp only at hSw); go_simp; with_reducible rfl
                          try simp only [Act.put, List.setIfInBounds_toArray, List.set_cons_zero, List.set_cons_succ]
                          refine takeN (v := ?_) 17 rfl (by kernel_rfl) (by kernel_rfl) (by kernel_rfl) (fun _ _ _ h => h) (by rfl) ?_ hHeld2 ?_
                          rotate_left
                          · intro w hSw; (try dsimp only at hSw); go_simp; with_reducible rfl
                          try simp only [Act.put, List.setIfInBounds_toArray, List.set_cons_zero, List.set_cons_succ]
                          refine takeN (v := ?_) 18 rfl (by kernel_rfl) (by kernel_rfl) (by kernel_rfl) (fun _ _ _ h => h) (by rfl) ?_ hHeld2 ?_
                          rotate_left
                          · intro w hSw; (try dsimp only at hSw); go_simp; with_reducible rfl
                          try simp only [Act.put, List.setIfInBounds_toArray, List.set_cons_zero, List.set_cons_succ]
                          refine takeN (v := ?_) 19 rfl (by kernel_rfl) (by kernel_rfl) (by kernel_rfl) (fun _ _ _ h => h) (by rfl) ?_ hHeld2 ?_
                          rotate_left
                          · intro w hSw; (try dsimp only at hSw); go_simp; with_reducible rfl
                          try simp only [Act.put, List.setIfInBounds_toArray, List.set_cons_zero, List.set_cons_succ]
                          refine takeN (v := ?_) 20 rfl (by kernel_rfl) (by kernel_rfl) (by kernel_rfl) (fun _ _ _ h => h) (by rfl) ?_ hHeld2 ?_
                          rotate_left
                          · intro w hSw; (try dsimp only at hSw); go_simp; with_reducible rfl
                          try simp only [Act.put, List.setIfInBounds_toArray, List.set_cons_zero, List.set_cons_succ]
                          refine skipN 21 rfl (by kernel_rfl) (by kernel_rfl) (by kernel_rfl) (fun _ _ _ h => h) (by rfl) hHeld2 ?_
                          try simp only [Act.put, List.setIfInBounds_toArray, List.set_cons_zero, List.set_cons_succ]
                          refine skipN 22 rfl (by kernel_rfl) (by kernel_rfl) (by kernel_rfl) (fun _ _ _ h => h) (by rfl) hHeld2 ?_
                          try simp only [Act.put, List.setIfInBounds_toArray, List.set_cons_zero, List.set_cons_succ]
                          refine skipN 23 rfl (by kernel_rfl) (by kernel_rfl) (by kernel_rfl) (fun _ _ _ h => h) (by rfl) hHeld2 ?_
                          try simp only [Act.put, List.setIfInBounds_toArray, List.set_cons_zero, List.set_cons_succ]
                          refine takeN (v := ?_) 24 rfl (by kernel_rfl) (by kernel_rfl) (by kernel_rfl) (fun _ _ _ h => h) (by rfl) ?_ hHeld2 ?_
                          rotate_left
                          · intro w hSw; (try dsimp only at hSw); go_simp; with_reducible rfl
                          try simp only [Act.put, List.setIfInBounds_toArray, List.set_cons_zero, List.set_cons_succ]
                          refine takeN (v := ?_) 25 rfl (by kernel_rfl) (by kernel_rfl) (by kernel_rfl) (fun _ _ _ h => h) (by rfl) ?_ hHeld2 ?_
                          rotate_left
                          · intro w hSw; (try dsimp only at hSw); go_simp; with_reducible rfl
                          try simp only [Act.put, List.setIfInBounds_toArray, List.set_cons_zero, List.set_cons_succ]
                          refine wpAnyH_ready (rs := [0]) (by kernel_rfl) (by simp) ?_
                          refine readyN rfl (fun K hK => ?_) ?_
                          · -- operation 0
                            first
                              | (refine load59 (.tmp 6) rfl b6 rfl _ _ _ _ _ (0, 0) HQ5.out ?_)
                              | (go_at_call 48; refine HHA.out.mono ?_; rintro e w9 ⟨rfl, rfl⟩)
                            refine hK.out _ _ ?_ (fun hHeld3 => ?_)
                            · (try dsimp only)
                              first | with_reducible exact D0.out | with_reducible exact CK.out _ (((((((Keep.refl _ _).setEq _ _).setEq _ _).setEq _ _).setEq _ _).setEq _ _).drew)
                            clear hK K hHeld2
                            try simp only [Act.put, List.setIfInBounds_toArray, List.set_cons_zero, List.set_cons_succ]
                            refine wpAnyH_ready (rs := [26]) (by kernel_rfl) (by simp) ?_
                            refine readyN rfl (fun K hK => ?_) ?_
                            · -- operation 26
                              go_simp
                              refine hK.out _ _ ?_ (fun hHeld4 => ?_)
                              · (try dsimp only)
                                first | with_reducible exact D0.out | with_reducible exact CK.out _ (((((((Keep.refl _ _).setEq _ _).setEq _ _).setEq _ _).setEq _ _).setEq _ _).drew)
                              clear hK K hHeld3
                              try simp only [Act.put, List.setIfInBounds_toArray, List.set_cons_zero, List.set_cons_succ]
                              refine takeN (v := ?_) 27 rfl (by kernel_rfl) (by kernel_rfl) (by kernel_rfl) (fun _ _ _ h => h) (by rfl) ?_ hHeld4 ?_
                              rotate_left
                              · intro w hSw; (try dsimp only at hSw); go_simp; with_reducible rfl
                              try simp only [Act.put, List.setIfInBounds_toArray, List.set_cons_zero, List.set_cons_succ]
                              refine wpAnyH_done (by kernel_rfl) ?_ _
                              go_wp2_with fail
                              refine bodyPost_ret (v := .tuple #[.agg #[.int .i64 0, .slice (some ⟨bt, 0, none⟩) j j, .slice (some ⟨bh, 0, none⟩) j j, .map (some bf), .bool false], .bool true]) (by simp [results, Try.results46, go_sem, zz0, zz1, zz2, zz3, zz4]; try rfl) rfl ?_
                              have hkk := FIN.out _ (((((((Keep.refl (fun i => i = w.heap.size) w5).setEq 0 (.int .i64 0)).setEq 1 (.slice (some ⟨bt, 0, none⟩) j j)).setEq 2 (.slice (some ⟨bh, 0, none⟩) j j)).setEq 3 (.map (some bf))).setEq 4 (.bool false)).drew)
                              rw [HRR.out]
                              exact ⟨head_out HOK2.out.1 HOK2.out.2.1 HRT.out HLE.out HV.out h4 hn hkk.1 hkk.2.1 hkk.2.2.1 LW.out.2.2.2.2.1 LW.out.2.1 LW.out.2.2.1 LW.out.2.2.2.1, hkk.2.2.2⟩
                            exact AllReadyH.nil
                          exact AllReadyH.nil
                        exact AllReadyH.nil
                      exact AllReadyH.nil
                    · have hrb : (root == 0) = false := by simpa using hr0
                      have HV := Lib.hid (show okB b j = hasB L root by rw [HOV.out, hrb]; rfl)
                      obtain ⟨hv, hhv⟩ : ∃ hv, hv = hasB L root := ⟨_, rfl⟩
                      rw [← hhv] at HV HHA
                      clear hhv
                      refine wp_region_held_drew (S := (fun w' => (w'.cell? ⟨b6, 0, none⟩ = some (.int .i64 root) ∧ w'.cell? ⟨b6, 1, none⟩ = some (.slice (some ⟨bt, 0, none⟩) j j) ∧ w'.cell? ⟨b6, 2, none⟩ = some (.slice (some ⟨bh, 0, none⟩) j j) ∧ w'.cell? ⟨b6, 3, none⟩ = some (.map (some bf)) ∧ w'.cell? ⟨b6, 4, none⟩ = some (.bool false)) ∧ w'.cell? ⟨bt, 0, none⟩ = some (.bool false) ∧ w'.cell? ⟨bt, 1, none⟩ = some (.bool false))) (by kernel_rfl) ?_ (fun hHeld0 => ?_)
                      · (try dsimp only)
                        first | with_reducible exact D0.out | with_reducible exact CK.out _ (((((((Keep.refl _ _).setEq _ _).setEq _ _).setEq _ _).setEq _ _).setEq _ _).drew)
                      refine takeN (v := ?_) 1 rfl (by kernel_rfl) (by kernel_rfl) (by kernel_rfl) (fun _ _ _ h => h) (by rfl) ?_ hHeld0 ?_
                      rotate_left
                      · intro w hSw; (try dsimp only at hSw); go_simp; with_reducible rfl
                      try simp only [Act.put, List.setIfInBounds_toArray, List.set_cons_zero, List.set_cons_succ]
                      refine takeN (v := ?_) 2 rfl (by kernel_rfl) (by kernel_rfl) (by kernel_rfl) (fun _ _ _ h => h) (by rfl) ?_ hHeld0 ?_
                      rotate_left
                      · intro w hSw; (try dsimp only at hSw); go_simp; with_reducible rfl
                      try simp only [Act.put, List.setIfInBounds_toArray, List.set_cons_zero, List.set_cons_succ]
                      refine takeN (v := ?_) 3 rfl (by kernel_rfl) (by kernel_rfl) (by kernel_rfl) (fun _ _ _ h => h) (by rfl) ?_ hHeld0 ?_
                      rotate_left
                      · intro w hSw; (try dsimp only at hSw); go_simp; with_reducible rfl
                      try simp only [Act.put, List.setIfInBounds_toArray, List.set_cons_zero, List.set_cons_succ]
                      refine takeN (v := ?_) 4 rfl (by kernel_rfl) (by kernel_rfl) (by kernel_rfl) (fun _ _ _ h => h) (by rfl) ?_ hHeld0 ?_
                      rotate_left
                      · intro w hSw; (try dsimp only at hSw); go_simp; with_reducible rfl
                      try simp only [Act.put, List.setIfInBounds_toArray, List.set_cons_zero, List.set_cons_succ]
                      refine wpAnyH_ready (rs := [0, 5]) (by kernel_rfl) (by simp) ?_
                      refine readyN rfl (fun K hK => ?_) ?_
                      · -- operation 0
                        first
                          | (refine load59 (.tmp 6) rfl b6 rfl _ _ _ _ _ (0, 0) HQ5.out ?_)
                          | (go_at_call 48; refine HHA.out.mono ?_; rintro e w9 ⟨rfl, rfl⟩)
                        refine hK.out _ _ ?_ (fun hHeld1 => ?_)
                        · (try dsimp only)
                          first | with_reducible exact D0.out | with_reducible exact CK.out _ (((((((Keep.refl _ _).setEq _ _).setEq _ _).setEq _ _).setEq _ _).setEq _ _).drew)
                        clear hK K hHeld0
                        try simp only [Act.put, List.setIfInBounds_toArray, List.set_cons_zero, List.set_cons_succ]
                        refine wpAnyH_ready (rs := [5]) (by kernel_rfl) (by simp) ?_
                        refine readyN rfl (fun K hK => ?_) ?_
                        · -- operation 5
                          go_simp
                          go_wp2_with (
                              first
                                | (refine load59 (.tmp 6) rfl b6 rfl _ _ _ _ _ (0, 0) HQ5.out ?_)
                                | (go_at_call 48; refine HHA.out.mono ?_; rintro e w9 ⟨rfl, rfl⟩))
                          refine hK.out _ _ ?_ (fun hHeld2 => ?_)
                          · (try dsimp only)
                            first | with_reducible exact D0.out | with_reducible exact CK.out _ (((((((Keep.refl _ _).setEq _ _).setEq _ _).setEq _ _).setEq _ _).setEq _ _).drew)
                          clear hK K hHeld1
                          try simp only [Act.put, List.setIfInBounds_toArray, List.set_cons_zero, List.set_cons_succ]
                          refine takeN (v := ?_) 6 rfl (by kernel_rfl) (by kernel_rfl) (by kernel_rfl) (fun _ _ _ h => h) (by rfl) ?_ hHeld2 ?_
                          rotate_left
                          · intro w hSw; (try dsimp only at hSw); go_simp; with_reducible rfl
                          try simp only [Act.put, List.setIfInBounds_toArray, List.set_cons_zero, List.set_cons_succ]
                          refine takeN (v := ?_) 7 rfl (by kernel_rfl) (by kernel_rfl) (by kernel_rfl) (fun _ _ _ h => h) (by rfl) ?_ hHeld2 ?_
                          rotate_left
                          · intro w hSw; (try dsimp only at hSw); go_simp; with_reducible rfl
                          try simp only [Act.put, List.setIfInBounds_toArray, List.set_cons_zero, List.set_cons_succ]
                          refine takeN (v := ?_) 8 rfl (by kernel_rfl) (by kernel_rfl) (by kernel_rfl) (fun _ _ _ h => h) (by rfl) ?_ hHeld2 ?_
                          rotate_left
                          · intro w hSw; (try dsimp only at hSw); go_simp; with_reducible rfl
                          try simp only [Act.put, List.setIfInBounds_toArray, List.set_cons_zero, List.set_cons_succ]
                          refine takeN (v := ?_) 9 rfl (by kernel_rfl) (by kernel_rfl) (by kernel_rfl) (fun _ _ _ h => h) (by rfl) ?_ hHeld2 ?_
                          rotate_left
                          · intro w hSw; (try dsimp only at hSw); go_simp; with_reducible rfl
                          try simp only [Act.put, List.setIfInBounds_toArray, List.set_cons_zero, List.set_cons_succ]
                          refine takeN (v := ?_) 10 rfl (by kernel_rfl) (by kernel_rfl) (by kernel_rfl) (fun _ _ _ h => h) (by rfl) ?_ hHeld2 ?_
                          rotate_left
                          · intro w hSw; (try dsimp only at hSw); go_simp; with_reducible rfl
                          try simp only [Act.put, List.setIfInBounds_toArray, List.set_cons_zero, List.set_cons_succ]
                          refine takeN (v := ?_) 11 rfl (by kernel_rfl) (by kernel_rfl) (by kernel_rfl) (fun _ _ _ h => h) (by rfl) ?_ hHeld2 ?_
                          rotate_left
                          · intro w hSw; (try dsimp only at hSw); go_simp; with_reducible rfl
                          try simp only [Act.put, List.setIfInBounds_toArray, List.set_cons_zero, List.set_cons_succ]
                          refine wpAnyH_ready (rs := [12]) (by kernel_rfl) (by simp) ?_
                          refine readyN rfl (fun K hK => ?_) ?_
                          · -- operation 12
                            go_simp
                            go_wp2_with (
                                first
                                  | (refine load59 (.tmp 6) rfl b6 rfl _ _ _ _ _ (0, 0) HQ5.out ?_)
                                  | (go_at_call 48; refine HHA.out.mono ?_; rintro e w9 ⟨rfl, rfl⟩))
                            refine hK.out _ _ ?_ (fun hHeld3 => ?_)
                            · (try dsimp only)
                              first | with_reducible exact D0.out | with_reducible exact CK.out _ (((((((Keep.refl _ _).setEq _ _).setEq _ _).setEq _ _).setEq _ _).setEq _ _).drew)
                            clear hK K hHeld2
                            try simp only [Act.put, List.setIfInBounds_toArray, List.set_cons_zero, List.set_cons_succ]
                            refine takeN (v := ?_) 13 rfl (by kernel_rfl) (by kernel_rfl) (by kernel_rfl) (fun _ _ _ h => h) (by rfl) ?_ hHeld3 ?_
                            rotate_left
                            · intro w hSw; (try dsimp only at hSw); go_simp; with_reducible rfl
                            try simp only [Act.put, List.setIfInBounds_toArray, List.set_cons_zero, List.set_cons_succ]
                            refine takeN (v := ?_) 14 rfl (by kernel_rfl) (by kernel_rfl) (by kernel_rfl) (fun _ _ _ h => h) (by rfl) ?_ hHeld3 ?_
                            rotate_left
                            · intro w hSw; (try dsimp only at hSw); go_simp; with_reducible rfl
                            try simp only [Act.put, List.setIfInBounds_toArray, List.set_cons_zero, List.set_cons_succ]
                            refine takeN (v := ?_) 15 rfl (by kernel_rfl) (by kernel_rfl) (by kernel_rfl) (fun _ _ _ h => h) (by rfl) ?_ hHeld3 ?_
                            rotate_left
                            · intro w hSw; (try dsimp only at hSw); go_simp; with_reducible rfl
                            try simp only [Act.put, List.setIfInBounds_toArray, List.set_cons_zero, List.set_cons_succ]
                            refine takeN (v := ?_) 16 rfl (by kernel_rfl) (by kernel_rfl) (by kernel_rfl) (fun _ _ _ h => h) (by rfl) ?_ hHeld3 ?_
                            rotate_left
                            · intro w hSw; (try dsimp only at hSw); go_simp; with_reducible rfl
                            try simp only [Act.put, List.setIfInBounds_toArray, List.set_cons_zero, List.set_cons_succ]
                            refine takeN (v := ?_) 17 rfl (by kernel_rfl) (by kernel_rfl) (by kernel_rfl) (fun _ _ _ h => h) (by rfl) ?_ hHeld3 ?_
                            rotate_left
                            · intro w hSw; (try dsimp only at hSw); go_simp; with_reducible rfl
                            try simp only [Act.put, List.setIfInBounds_toArray, List.set_cons_zero, List.set_cons_succ]
                            refine takeN (v := ?_) 18 rfl (by kernel_rfl) (by kernel_rfl) (by kernel_rfl) (fun _ _ _ h => h) (by rfl) ?_ hHeld3 ?_
                            rotate_left
                            · intro w hSw; (try dsimp only at hSw); go_simp; with_reducible rfl
                            try simp only [Act.put, List.setIfInBounds_toArray, List.set_cons_zero, List.set_cons_succ]
                            refine takeN (v := ?_) 19 rfl (by kernel_rfl) (by kernel_rfl) (by kernel_rfl) (fun _ _ _ h => h) (by rfl) ?_ hHeld3 ?_
                            rotate_left
                            · intro w hSw; (try dsimp only at hSw); go_simp; with_reducible rfl
                            try simp only [Act.put, List.setIfInBounds_toArray, List.set_cons_zero, List.set_cons_succ]
                            refine takeN (v := ?_) 20 rfl (by kernel_rfl) (by kernel_rfl) (by kernel_rfl) (fun _ _ _ h => h) (by rfl) ?_ hHeld3 ?_
                            rotate_left
                            · intro w hSw; (try dsimp only at hSw); go_simp; with_reducible rfl
                            try simp only [Act.put, List.setIfInBounds_toArray, List.set_cons_zero, List.set_cons_succ]
                            refine takeN (v := ?_) 21 rfl (by kernel_rfl) (by kernel_rfl) (by kernel_rfl) (fun _ _ _ h => h) (by rfl) ?_ hHeld3 ?_
                            rotate_left
                            · intro w hSw; (try dsimp only at hSw); go_simp; with_reducible rfl
                            try simp only [Act.put, List.setIfInBounds_toArray, List.set_cons_zero, List.set_cons_succ]
                            refine takeN (v := ?_) 22 rfl (by kernel_rfl) (by kernel_rfl) (by kernel_rfl) (fun _ _ _ h => h) (by rfl) ?_ hHeld3 ?_
                            rotate_left
                            · intro w hSw; (try dsimp only at hSw); go_simp; with_reducible rfl
                            try simp only [Act.put, List.setIfInBounds_toArray, List.set_cons_zero, List.set_cons_succ]
                            refine wpAnyH_ready (rs := [23]) (by kernel_rfl) (by simp) ?_
                            refine readyN rfl (fun K hK => ?_) ?_
                            · -- operation 23
                              go_simp
                              first
                                | (refine load59 (.tmp 6) rfl b6 rfl _ _ _ _ _ (0, 0) HQ5.out ?_)
                                | (go_at_call 48; refine HHA.out.mono ?_; rintro e w9 ⟨rfl, rfl⟩)
                              go_wp2_with fail
                              refine hK.out _ _ ?_ (fun hHeld4 => ?_)
                              · (try dsimp only)
                                first | with_reducible exact D0.out | with_reducible exact CK.out _ (((((((Keep.refl _ _).setEq _ _).setEq _ _).setEq _ _).setEq _ _).setEq _ _).drew)
                              clear hK K hHeld3
                              try simp only [Act.put, List.setIfInBounds_toArray, List.set_cons_zero, List.set_cons_succ]
                              refine takeN (v := ?_) 24 rfl (by kernel_rfl) (by kernel_rfl) (by kernel_rfl) (fun _ _ _ h => h) (by rfl) ?_ hHeld4 ?_
                              rotate_left
                              · intro w hSw; (try dsimp only at hSw); go_simp; with_reducible rfl
                              try simp only [Act.put, List.setIfInBounds_toArray, List.set_cons_zero, List.set_cons_succ]
                              refine takeN (v := ?_) 25 rfl (by kernel_rfl) (by kernel_rfl) (by kernel_rfl) (fun _ _ _ h => h) (by rfl) ?_ hHeld4 ?_
                              rotate_left
                              · intro w hSw; (try dsimp only at hSw); go_simp; with_reducible rfl
                              try simp only [Act.put, List.setIfInBounds_toArray, List.set_cons_zero, List.set_cons_succ]
                              refine wpAnyH_ready (rs := [26]) (by kernel_rfl) (by simp) ?_
                              refine readyN rfl (fun K hK => ?_) ?_
                              · -- operation 26
                                go_simp
                                refine hK.out _ _ ?_ (fun hHeld5 => ?_)
                                · (try dsimp only)
                                  first | with_reducible exact D0.out | with_reducible exact CK.out _ (((((((Keep.refl _ _).setEq _ _).setEq _ _).setEq _ _).setEq _ _).setEq _ _).drew)
                                clear hK K hHeld4
                                try simp only [Act.put, List.setIfInBounds_toArray, List.set_cons_zero, List.set_cons_succ]
                                refine takeN (v := ?_) 27 rfl (by kernel_rfl) (by kernel_rfl) (by kernel_rfl) (fun _ _ _ h => h) (by rfl) ?_ hHeld5 ?_
                                rotate_left
                                · intro w hSw; (try dsimp only at hSw); go_simp; with_reducible rfl
                                try simp only [Act.put, List.setIfInBounds_toArray, List.set_cons_zero, List.set_cons_succ]
                                refine wpAnyH_done (by kernel_rfl) ?_ _
                                go_wp2_with fail
                                refine bodyPost_ret (v := .tuple #[.agg #[.int .i64 root, .slice (some ⟨bt, 0, none⟩) j j, .slice (some ⟨bh, 0, none⟩) j j, .map (some bf), .bool false], .bool hv]) (by simp [results, Try.results46, go_sem, zz0, zz1, zz2, zz3, zz4]; try rfl) rfl ?_
                                have hkk := FIN.out _ (((((((Keep.refl (fun i => i = w.heap.size) w5).setEq 0 (.int .i64 root)).setEq 1 (.slice (some ⟨bt, 0, none⟩) j j)).setEq 2 (.slice (some ⟨bh, 0, none⟩) j j)).setEq 3 (.map (some bf))).setEq 4 (.bool false)).drew)
                                rw [HRR.out]
                                exact ⟨head_out HOK2.out.1 HOK2.out.2.1 HRT.out HLE.out HV.out h4 hn hkk.1 hkk.2.1 hkk.2.2.1 LW.out.2.2.2.2.1 LW.out.2.1 LW.out.2.2.1 LW.out.2.2.2.1, hkk.2.2.2⟩
                              exact AllReadyH.nil
                            exact AllReadyH.nil
                          exact AllReadyH.nil
                        exact AllReadyH.nil
                      refine readyN rfl (fun K hK => ?_) ?_
                      · -- operation 5
                        go_simp
                        go_wp2_with (
                            first
                              | (refine load59 (.tmp 6) rfl b6 rfl _ _ _ _ _ (0, 0) HQ5.out ?_)
                              | (go_at_call 48; refine HHA.out.mono ?_; rintro e w9 ⟨rfl, rfl⟩))
                        refine hK.out _ _ ?_ (fun hHeld1 => ?_)
                        · (try dsimp only)
                          first | with_reducible exact D0.out | with_reducible exact CK.out _ (((((((Keep.refl _ _).setEq _ _).setEq _ _).setEq _ _).setEq _ _).setEq _ _).drew)
                        clear hK K hHeld0
                        try simp only [Act.put, List.setIfInBounds_toArray, List.set_cons_zero, List.set_cons_succ]
                        refine takeN (v := ?_) 6 rfl (by kernel_rfl) (by kernel_rfl) (by kernel_rfl) (fun _ _ _ h => h) (by rfl) ?_ hHeld1 ?_
                        rotate_left
                        · intro w hSw; (try dsimp only at hSw); go_simp; with_reducible rfl
                        try simp only [Act.put, List.setIfInBounds_toArray, List.set_cons_zero, List.set_cons_succ]
                        refine takeN (v := ?_) 7 rfl (by kernel_rfl) (by kernel_rfl) (by kernel_rfl) (fun _ _ _ h => h) (by rfl) ?_ hHeld1 ?_
                        rotate_left
                        · intro w hSw; (try dsimp only at hSw); go_simp; with_reducible rfl
                        try simp only [Act.put, List.setIfInBounds_toArray, List.set_cons_zero, List.set_cons_succ]
                        refine takeN (v := ?_) 8 rfl (by kernel_rfl) (by kernel_rfl) (by kernel_rfl) (fun _ _ _ h => h) (by rfl) ?_ hHeld1 ?_
                        rotate_left
                        · intro w hSw; (try dsimp only at hSw); go_simp; with_reducible rfl
                        try simp only [Act.put, List.setIfInBounds_toArray, List.set_cons_zero, List.set_cons_succ]
                        refine takeN (v := ?_) 9 rfl (by kernel_rfl) (by kernel_rfl) (by kernel_rfl) (fun _ _ _ h => h) (by rfl) ?_ hHeld1 ?_
                        rotate_left
                        · intro w hSw; (try dsimp only at hSw); go_simp; with_reducible rfl
                        try simp only [Act.put, List.setIfInBounds_toArray, List.set_cons_zero, List.set_cons_succ]
                        refine takeN (v := ?_) 10 rfl (by kernel_rfl) (by kernel_rfl) (by kernel_rfl) (fun _ _ _ h => h) (by rfl) ?_ hHeld1 ?_
                        rotate_left
                        · intro w hSw; (try dsimp only at hSw); go_simp; with_reducible rfl
                        try simp only [Act.put, List.setIfInBounds_toArray, List.set_cons_zero, List.set_cons_succ]
                        refine takeN (v := ?_) 11 rfl (by kernel_rfl) (by kernel_rfl) (by kernel_rfl) (fun _ _ _ h => h) (by rfl) ?_ hHeld1 ?_
                        rotate_left
                        · intro w hSw; (try dsimp only at hSw); go_simp; with_reducible rfl
                        try simp only [Act.put, List.setIfInBounds_toArray, List.set_cons_zero, List.set_cons_succ]
                        refine wpAnyH_ready (rs := [0, 12]) (by kernel_rfl) (by simp) ?_
                        refine readyN rfl (fun K hK => ?_) ?_
                        · -- operation 0
                          first
                            | (refine load59 (.tmp 6) rfl b6 rfl _ _ _ _ _ (0, 0) HQ5.out ?_)
                            | (go_at_call 48; refine HHA.out.mono ?_; rintro e w9 ⟨rfl, rfl⟩)
                          refine hK.out _ _ ?_ (fun hHeld2 => ?_)
                          · (try dsimp only)
                            first | with_reducible exact D0.out | with_reducible exact CK.out _ (((((((Keep.refl _ _).setEq _ _).setEq _ _).setEq _ _).setEq _ _).setEq _ _).drew)
                          clear hK K hHeld1
                          try simp only [Act.put, List.setIfInBounds_toArray, List.set_cons_zero, List.set_cons_succ]
                          refine wpAnyH_ready (rs := [12]) (by kernel_rfl) (by simp) ?_
                          refine readyN rfl (fun K hK => ?_) ?_
                          · -- operation 12
                            go_simp
                            go_wp2_with (
                                first
                                  | (refine load59 (.tmp 6) rfl b6 rfl _ _ _ _ _ (0, 0) HQ5.out ?_)
                                  | (go_at_call 48; refine HHA.out.mono ?_; rintro e w9 ⟨rfl, rfl⟩))
                            refine hK.out _ _ ?_ (fun hHeld3 => ?_)
                            · (try dsimp only)
                              first | with_reducible exact D0.out | with_reducible exact CK.out _ (((((((Keep.refl _ _).setEq _ _).setEq _ _).setEq _ _).setEq _ _).setEq _ _).drew)
                            clear hK K hHeld2
                            try simp only [Act.put, List.setIfInBounds_toArray, List.set_cons_zero, List.set_cons_succ]
                            refine takeN (v := ?_) 13 rfl (by kernel_rfl) (by kernel_rfl) (by kernel_rfl) (fun _ _ _ h => h) (by rfl) ?_ hHeld3 ?_
                            rotate_left
                            · intro w hSw; (try dsimp only at hSw); go_simp; with_reducible rfl
                            try simp only [Act.put, List.setIfInBounds_toArray, List.set_cons_zero, List.set_cons_succ]
                            refine takeN (v := ?_) 14 rfl (by kernel_rfl) (by kernel_rfl) (by kernel_rfl) (fun _ _ _ h => h) (by rfl) ?_ hHeld3 ?_
                            rotate_left
                            · intro w hSw; (try dsimp only at hSw); go_simp; with_reducible rfl
                            try simp only [Act.put, List.setIfInBounds_toArray, List.set_cons_zero, List.set_cons_succ]
                            refine takeN (v := ?_) 15 rfl (by kernel_rfl) (by kernel_rfl) (by kernel_rfl) (fun _ _ _ h => h) (by rfl) ?_ hHeld3 ?_
                            rotate_left
                            · intro w hSw; (try dsimp only at hSw); go_simp; with_reducible rfl
                            try simp only [Act.put, List.setIfInBounds_toArray, List.set_cons_zero, List.set_cons_succ]
                            refine takeN (v := ?_) 16 rfl (by kernel_rfl) (by kernel_rfl) (by kernel_rfl) (fun _ _ _ h => h) (by rfl) ?_ hHeld3 ?_
                            rotate_left
                            · intro w hSw; (try dsimp only at hSw); go_simp; with_reducible rfl
                            try simp only [Act.put, List.setIfInBounds_toArray, List.set_cons_zero, List.set_cons_succ]
                            refine takeN (v := ?_) 17 rfl (by kernel_rfl) (by kernel_rfl) (by kernel_rfl) (fun _ _ _ h => h) (by rfl) ?_ hHeld3 ?_
                            rotate_left
                            · intro w hSw; (try dsimp only at hSw); go_simp; with_reducible rfl
                            try simp only [Act.put, List.setIfInBounds_toArray, List.set_cons_zero, List.set_cons_succ]
                            refine takeN (v := ?_) 18 rfl (by kernel_rfl) (by kernel_rfl) (by kernel_rfl) (fun _ _ _ h => h) (by rfl) ?_ hHeld3 ?_
                            rotate_left
                            · intro w hSw; (try dsimp only at hSw); go_simp; with_reducible rfl
                            try simp only [Act.put, List.setIfInBounds_toArray, List.set_cons_zero, List.set_cons_succ]
                            refine takeN (v := ?_) 19 rfl (by kernel_rfl) (by kernel_rfl) (by kernel_rfl) (fun _ _ _ h => h) (by rfl) ?_ hHeld3 ?_
                            rotate_left
                            · intro w hSw; (try dsimp only at hSw); go_simp; with_reducible rfl
                            try simp only [Act.put, List.setIfInBounds_toArray, List.set_cons_zero, List.set_cons_succ]
                            refine takeN (v := ?_) 20 rfl (by kernel_rfl) (by kernel_rfl) (by kernel_rfl) (fun _ _ _ h => h) (by rfl) ?_ hHeld3 ?_
                            rotate_left
                            · intro w hSw; (try dsimp only at hSw); go_simp; with_reducible rfl
                            try simp only [Act.put, List.setIfInBounds_toArray, List.set_cons_zero, List.set_cons_succ]
                            refine takeN (v := ?_) 21 rfl (by kernel_rfl) (by kernel_rfl) (by kernel_rfl) (fun _ _ _ h => h) (by rfl) ?_ hHeld3 ?_
                            rotate_left
                            · intro w hSw; (try dsimp only at hSw); go_simp; with_reducible rfl
                            try simp only [Act.put, List.setIfInBounds_toArray, List.set_cons_zero, List.set_cons_succ]
                            refine takeN (v := ?_) 22 rfl (by kernel_rfl) (by kernel_rfl) (by kernel_rfl) (fun _ _ _ h => h) (by rfl) ?_ hHeld3 ?_
                            rotate_left
                            · intro w hSw; (try dsimp only at hSw); go_simp; with_reducible rfl
                            try simp only [Act.put, List.setIfInBounds_toArray, List.set_cons_zero, List.set_cons_succ]
                            refine wpAnyH_ready (rs := [23]) (by kernel_rfl) (by simp) ?_
                            refine readyN rfl (fun K hK => ?_) ?_
                            · -- operation 23
                              go_simp
                              first
                                | (refine load59 (.tmp 6) rfl b6 rfl _ _ _ _ _ (0, 0) HQ5.out ?_)
                                | (go_at_call 48; refine HHA.out.mono ?_; rintro e w9 ⟨rfl, rfl⟩)
                              go_wp2_with fail
                              refine hK.out _ _ ?_ (fun hHeld4 => ?_)
                              · (try dsimp only)
                                first | with_reducible exact D0.out | with_reducible exact CK.out _ (((((((Keep.refl _ _).setEq _ _).setEq _ _).setEq _ _).setEq _ _).setEq _ _).drew)
                              clear hK K hHeld3
                              try simp only [Act.put, List.setIfInBounds_toArray, List.set_cons_zero, List.set_cons_succ]
                              refine takeN (v := ?_) 24 rfl (by kernel_rfl) (by kernel_rfl) (by kernel_rfl) (fun _ _ _ h => h) (by rfl) ?_ hHeld4 ?_
                              rotate_left
                              · intro w hSw; (try dsimp only at hSw); go_simp; with_reducible rfl
                              try simp only [Act.put, List.setIfInBounds_toArray, List.set_cons_zero, List.set_cons_succ]
                              refine takeN (v := ?_) 25 rfl (by kernel_rfl) (by kernel_rfl) (by kernel_rfl) (fun _ _ _ h => h) (by rfl) ?_ hHeld4 ?_
                              rotate_left
                              · intro w hSw; (try dsimp only at hSw); go_simp; with_reducible rfl
                              try simp only [Act.put, List.setIfInBounds_toArray, List.set_cons_zero, List.set_cons_succ]
                              refine wpAnyH_ready (rs := [26]) (by kernel_rfl) (by simp) ?_
                              refine readyN rfl (fun K hK => ?_) ?_
                              · -- operation 26
                                go_simp
                                refine hK.out _ _ ?_ (fun hHeld5 => ?_)
                                · (try dsimp only)
                                  first | with_reducible exact D0.out | with_reducible exact CK.out _ (((((((Keep.refl _ _).setEq _ _).setEq _ _).setEq _ _).setEq _ _).setEq _ _).drew)
                                clear hK K hHeld4
                                try simp only [Act.put, List.setIfInBounds_toArray, List.set_cons_zero, List.set_cons_succ]
                                refine takeN (v := ?_) 27 rfl (by kernel_rfl) (by kernel_rfl) (by kernel_rfl) (fun _ _ _ h => h) (by rfl) ?_ hHeld5 ?_
                                rotate_left
                                · intro w hSw; (try dsimp only at hSw); go_simp; with_reducible rfl
                                try simp only [Act.put, List.setIfInBounds_toArray, List.set_cons_zero, List.set_cons_succ]
                                refine wpAnyH_done (by kernel_rfl) ?_ _
                                go_wp2_with fail
                                refine bodyPost_ret (v := .tuple #[.agg #[.int .i64 root, .slice (some ⟨bt, 0, none⟩) j j, .slice (some ⟨bh, 0, none⟩) j j, .map (some bf), .bool false], .bool hv]) (by simp [results, Try.results46, go_sem, zz0, zz1, zz2, zz3, zz4]; try rfl) rfl ?_
                                have hkk := FIN.out _ (((((((Keep.refl (fun i => i = w.heap.size) w5).setEq 0 (.int .i64 root)).setEq 1 (.slice (some ⟨bt, 0, none⟩) j j)).setEq 2 (.slice (some ⟨bh, 0, none⟩) j j)).setEq 3 (.map (some bf))).setEq 4 (.bool false)).drew)
                                rw [HRR.out]
                                exact ⟨head_out HOK2.out.1 HOK2.out.2.1 HRT.out HLE.out HV.out h4 hn hkk.1 hkk.2.1 hkk.2.2.1 LW.out.2.2.2.2.1 LW.out.2.1 LW.out.2.2.1 LW.out.2.2.2.1, hkk.2.2.2⟩
                              exact AllReadyH.nil
                            exact AllReadyH.nil
                          exact AllReadyH.nil
                        refine readyN rfl (fun K hK => ?_) ?_
                        · -- operation 12
                          go_simp
                          go_wp2_with (
                              first
                                | (refine load59 (.tmp 6) rfl b6 rfl _ _ _ _ _ (0, 0) HQ5.out ?_)
                                | (go_at_call 48; refine HHA.out.mono ?_; rintro e w9 ⟨rfl, rfl⟩))
                          refine hK.out _ _ ?_ (fun hHeld2 => ?_)
                          · (try dsimp only)
                            first | with_reducible exact D0.out | with_reducible exact CK.out _ (((((((Keep.refl _ _).setEq _ _).setEq _ _).setEq _ _).setEq _ _).setEq _ _).drew)
                          clear hK K hHeld1
                          try simp only [Act.put, List.setIfInBounds_toArray, List.set_cons_zero, List.set_cons_succ]
                          refine takeN (v := ?_) 13 rfl (by kernel_rfl) (by kernel_rfl) (by kernel_rfl) (fun _ _ _ h => h) (by rfl) ?_ hHeld2 ?_
                          rotate_left
                          · intro w hSw; (try dsimp only at hSw); go_simp; with_reducible rfl
                          try simp only [Act.put, List.setIfInBounds_toArray, List.set_cons_zero, List.set_cons_succ]
                          refine takeN (v := ?_) 14 rfl (by kernel_rfl) (by kernel_rfl) (by kernel_rfl) (fun _ _ _ h => h) (by rfl) ?_ hHeld2 ?_
                          rotate_left
                          · intro w hSw; (try dsimp only at hSw); go_simp; with_reducible rfl
                          try simp only [Act.put, List.setIfInBounds_toArray, List.set_cons_zero, List.set_cons_succ]
                          refine takeN (v := ?_) 15 rfl (by kernel_rfl) (by kernel_rfl) (by kernel_rfl) (fun _ _ _ h => h) (by rfl) ?_ hHeld2 ?_
                          rotate_left
                          · intro w hSw; (try dsimp only at hSw); go_simp; with_reducible rfl
                          try simp only [Act.put, List.setIfInBounds_toArray, List.set_cons_zero, List.set_cons_succ]
                          refine takeN (v := ?_) 16 rfl (by kernel_rfl) (by kernel_rfl) (by kernel_rfl) (fun _ _ _ h => h) (by rfl) ?_ hHeld2 ?_
                          rotate_left
                          · intro w hSw; (try dsimp only at hSw); go_simp; with_reducible rfl
                          try simp only [Act.put, List.setIfInBounds_toArray, List.set_cons_zero, List.set_cons_succ]
                          refine takeN (v := ?_) 17 rfl (by kernel_rfl) (by kernel_rfl) (by kernel_rfl) (fun _ _ _ h => h) (by rfl) ?_ hHeld2 ?_
                          rotate_left
                          · intro w hSw; (try dsimp only at hSw); go_simp; with_reducible rfl
                          try simp only [Act.put, List.setIfInBounds_toArray, List.set_cons_zero, List.set_cons_succ]
                          refine takeN (v := ?_) 18 rfl (by kernel_rfl) (by kernel_rfl) (by kernel_rfl) (fun _ _ _ h => h) (by rfl) ?_ hHeld2 ?_
                          rotate_left
                          · intro w hSw; (try dsimp only at hSw); go_simp; with_reducible rfl
                          try simp only [Act.put, List.setIfInBounds_toArray, List.set_cons_zero, List.set_cons_succ]
                          refine takeN (v := ?_) 19 rfl (by kernel_rfl) (by kernel_rfl) (by kernel_rfl) (fun _ _ _ h => h) (by rfl) ?_ hHeld2 ?_
                          rotate_left
                          · intro w hSw; (try dsimp only at hSw); go_simp; with_reducible rfl
                          try simp only [Act.put, List.setIfInBounds_toArray, List.set_cons_zero, List.set_cons_succ]
                          refine takeN (v := ?_) 20 rfl (by kernel_rfl) (by kernel_rfl) (by kernel_rfl) (fun _ _ _ h => h) (by rfl) ?_ hHeld2 ?_
                          rotate_left
                          · intro w hSw; (try dsimp only at hSw); go_simp; with_reducible rfl
                          try simp only [Act.put, List.setIfInBounds_toArray, List.set_cons_zero, List.set_cons_succ]
                          refine takeN (v := ?_) 21 rfl (by kernel_rfl) (by kernel_rfl) (by kernel_rfl) (fun _ _ _ h => h) (by rfl) ?_ hHeld2 ?_
                          rotate_left
                          · intro w hSw; (try dsimp only at hSw); go_simp; with_reducible rfl
                          try simp only [Act.put, List.setIfInBounds_toArray, List.set_cons_zero, List.set_cons_succ]
                          refine takeN (v := ?_) 22 rfl (by kernel_rfl) (by kernel_rfl) (by kernel_rfl) (fun _ _ _ h => h) (by rfl) ?_ hHeld2 ?_
                          rotate_left
                          · intro w hSw; (try dsimp only at hSw); go_simp; with_reducible rfl
                          try simp only [Act.put, List.setIfInBounds_toArray, List.set_cons_zero, List.set_cons_succ]
                          refine wpAnyH_ready (rs := [0, 23]) (by kernel_rfl) (by simp) ?_
                          refine readyN rfl (fun K hK => ?_) ?_
                          · -- operation 0
                            first
                              | (refine load59 (.tmp 6) rfl b6 rfl _ _ _ _ _ (0, 0) HQ5.out ?_)
                              | (go_at_call 48; refine HHA.out.mono ?_; rintro e w9 ⟨rfl, rfl⟩)
                            refine hK.out _ _ ?_ (fun hHeld3 => ?_)
                            · (try dsimp only)
                              first | with_reducible exact D0.out | with_reducible exact CK.out _ (((((((Keep.refl _ _).setEq _ _).setEq _ _).setEq _ _).setEq _ _).setEq _ _).drew)
                            clear hK K hHeld2
                            try simp only [Act.put, List.setIfInBounds_toArray, List.set_cons_zero, List.set_cons_succ]
                            refine wpAnyH_ready (rs := [23]) (by kernel_rfl) (by simp) ?_
                            refine readyN rfl (fun K hK => ?_) ?_
                            · -- operation 23
                              go_simp
                              first
                                | (refine load59 (.tmp 6) rfl b6 rfl _ _ _ _ _ (0, 0) HQ5.out ?_)
                                | (go_at_call 48; refine HHA.out.mono ?_; rintro e w9 ⟨rfl, rfl⟩)
                              go_wp2_with fail
                              refine hK.out _ _ ?_ (fun hHeld4 => ?_)
                              · (try dsimp only)
                                first | with_reducible exact D0.out | with_reducible exact CK.out _ (((((((Keep.refl _ _).setEq _ _).setEq _ _).setEq _ _).setEq _ _).setEq _ _).drew)
                              clear hK K hHeld3
                              try simp only [Act.put, List.setIfInBounds_toArray, List.set_cons_zero, List.set_cons_succ]
                              refine takeN (v := ?_) 24 rfl (by kernel_rfl) (by kernel_rfl) (by kernel_rfl) (fun _ _ _ h => h) (by rfl) ?_ hHeld4 ?_
                              rotate_left
                              · intro w hSw; (try dsimp only at hSw); go_simp; with_reducible rfl
                              try simp only [Act.put, List.setIfInBounds_toArray, List.set_cons_zero, List.set_cons_succ]
                              refine takeN (v := ?_) 25 rfl (by kernel_rfl) (by kernel_rfl) (by kernel_rfl) (fun _ _ _ h => h) (by rfl) ?_ hHeld4 ?_
                              rotate_left
                              · intro w hSw; (try dsimp only at hSw); go_simp; with_reducible rfl
                              try simp only [Act.put, List.setIfInBounds_toArray, List.set_cons_zero, List.set_cons_succ]
                              refine wpAnyH_ready (rs := [26]) (by kernel_rfl) (by simp) ?_
                              refine readyN rfl (fun K hK => ?_) ?_
                              · -- operation 26
                                go_simp
                                refine hK.out _ _ ?_ (fun hHeld5 => ?_)
                                · (try dsimp only)
                                  first | with_reducible exact D0.out | with_reducible exact CK.out _ (((((((Keep.refl _ _).setEq _ _).setEq _ _).setEq _ _).setEq _ _).setEq _ _).drew)
                                clear hK K hHeld4
                                try simp only [Act.put, List.setIfInBounds_toArray, List.set_cons_zero, List.set_cons_succ]
                                refine takeN (v := ?_) 27 rfl (by kernel_rfl) (by kernel_rfl) (by kernel_rfl) (fun _ _ _ h => h) (by rfl) ?_ hHeld5 ?_
                                rotate_left
                                · intro w hSw; (try dsimp only at hSw); go_simp; with_reducible rfl
                                try simp only [Act.put, List.setIfInBounds_toArray, List.set_cons_zero, List.set_cons_succ]
                                refine wpAnyH_done (by kernel_rfl) ?_ _
                                go_wp2_with fail
                                refine bodyPost_ret (v := .tuple #[.agg #[.int .i64 root, .slice (some ⟨bt, 0, none⟩) j j, .slice (some ⟨bh, 0, none⟩) j j, .map (some bf), .bool false], .bool hv]) (by simp [results, Try.results46, go_sem, zz0, zz1, zz2, zz3, zz4]; try rfl) rfl ?_
                                have hkk := FIN.out _ (((((((Keep.refl (fun i => i = w.heap.size) w5).setEq 0 (.int .i64 root)).setEq 1 (.slice (some ⟨bt, 0, none⟩) j j)).setEq 2 (.slice (some ⟨bh, 0, none⟩) j j)).setEq 3 (.map (some bf))).setEq 4 (.bool false)).drew)
                                rw [HRR.out]
                                exact ⟨head_out HOK2.out.1 HOK2.out.2.1 HRT.out HLE.out HV.out h4 hn hkk.1 hkk.2.1 hkk.2.2.1 LW.out.2.2.2.2.1 LW.out.2.1 LW.out.2.2.1 LW.out.2.2.2.1, hkk.2.2.2⟩
                              exact AllReadyH.nil
                            exact AllReadyH.nil
                          refine readyN rfl (fun K hK => ?_) ?_
                          · -- operation 23
                            go_simp
                            first
                              | (refine load59 (.tmp 6) rfl b6 rfl _ _ _ _ _ (0, 0) HQ5.out ?_)
                              | (go_at_call 48; refine HHA.out.mono ?_; rintro e w9 ⟨rfl, rfl⟩)
                            go_wp2_with fail
                            refine hK.out _ _ ?_ (fun hHeld3 => ?_)
                            · (try dsimp only)
                              first | with_reducible exact D0.out | with_reducible exact CK.out _ (((((((Keep.refl _ _).setEq _ _).setEq _ _).setEq _ _).setEq _ _).setEq _ _).drew)
                            clear hK K hHeld2
                            try simp only [Act.put, List.setIfInBounds_toArray, List.set_cons_zero, List.set_cons_succ]
                            refine takeN (v := ?_) 24 rfl (by kernel_rfl) (by kernel_rfl) (by kernel_rfl) (fun _ _ _ h => h) (by rfl) ?_ hHeld3 ?_
                            rotate_left
                            · intro w hSw; (try dsimp only at hSw); go_simp; with_reducible rfl
                            try simp only [Act.put, List.setIfInBounds_toArray, List.set_cons_zero, List.set_cons_succ]
                            refine takeN (v := ?_) 25 rfl (by kernel_rfl) (by kernel_rfl) (by kernel_rfl) (fun _ _ _ h => h) (by rfl) ?_ hHeld3 ?_
                            rotate_left
                            · intro w hSw; (try dsimp only at hSw); go_simp; with_reducible rfl
                            try simp only [Act.put, List.setIfInBounds_toArray, List.set_cons_zero, List.set_cons_succ]
                            refine wpAnyH_ready (rs := [0]) (by kernel_rfl) (by simp) ?_
                            refine readyN rfl (fun K hK => ?_) ?_
                            · -- operation 0
                              first
                                | (refine load59 (.tmp 6) rfl b6 rfl _ _ _ _ _ (0, 0) HQ5.out ?_)
                                | (go_at_call 48; refine HHA.out.mono ?_; rintro e w9 ⟨rfl, rfl⟩)
                              refine hK.out _ _ ?_ (fun hHeld4 => ?_)
                              · (try dsimp only)
                                first | with_reducible exact D0.out | with_reducible exact CK.out _ (((((((Keep.refl _ _).setEq _ _).setEq _ _).setEq _ _).setEq _ _).setEq _ _).drew)
                              clear hK K hHeld3
                              try simp only [Act.put, List.setIfInBounds_toArray, List.set_cons_zero, List.set_cons_succ]
                              refine wpAnyH_ready (rs := [26]) (by kernel_rfl) (by simp) ?_
                              refine readyN rfl (fun K hK => ?_) ?_
                              · -- operation 26
                                go_simp
                                refine hK.out _ _ ?_ (fun hHeld5 => ?_)
                                · (try dsimp only)
                                  first | with_reducible exact D0.out | with_reducible exact CK.out _ (((((((Keep.refl _ _).setEq _ _).setEq _ _).setEq _ _).setEq _ _).setEq _ _).drew)
                                clear hK K hHeld4
                                try simp only [Act.put, List.setIfInBounds_toArray, List.set_cons_zero, List.set_cons_succ]
                                refine takeN (v := ?_) 27 rfl (by kernel_rfl) (by kernel_rfl) (by kernel_rfl) (fun _ _ _ h => h) (by rfl) ?_ hHeld5 ?_
                                rotate_left
                                · intro w hSw; (try dsimp only at hSw); go_simp; with_reducible rfl
                                try simp only [Act.put, List.setIfInBounds_toArray, List.set_cons_zero, List.set_cons_succ]
                                refine wpAnyH_done (by kernel_rfl) ?_ _
                                go_wp2_with fail
                                refine bodyPost_ret (v := .tuple #[.agg #[.int .i64 root, .slice (some ⟨bt, 0, none⟩) j j, .slice (some ⟨bh, 0, none⟩) j j, .map (some bf), .bool false], .bool hv]) (by simp [results, Try.results46, go_sem, zz0, zz1, zz2, zz3, zz4]; try rfl) rfl ?_
                                have hkk := FIN.out _ (((((((Keep.refl (fun i => i = w.heap.size) w5).setEq 0 (.int .i64 root)).setEq 1 (.slice (some ⟨bt, 0, none⟩) j j)).setEq 2 (.slice (some ⟨bh, 0, none⟩) j j)).setEq 3 (.map (some bf))).setEq 4 (.bool false)).drew)
                                rw [HRR.out]
                                exact ⟨head_out HOK2.out.1 HOK2.out.2.1 HRT.out HLE.out HV.out h4 hn hkk.1 hkk.2.1 hkk.2.2.1 LW.out.2.2.2.2.1 LW.out.2.1 LW.out.2.2.1 LW.out.2.2.2.1, hkk.2.2.2⟩
                              exact AllReadyH.nil
                            exact AllReadyH.nil
                          exact AllReadyH.nil
                        exact AllReadyH.nil
                      exact AllReadyH.nil
            exact AllReadyH.nil
          exact AllReadyH.nil
    · have hF : headF b n = none := by
        unfold headF
        rw [if_neg (fun h => hok ⟨by rw [HSZ.out]; exact h.1.1, by rw [HRT.out]; exact h.1.2⟩)]
      have HF := Lib.hid hF
      have hfail : ¬ (sz : Int) = 8 + ((n : Int) + 7) / 8 ∨ ((sz : Int) = 8 + ((n : Int) + 7) / 8 ∧ ¬ root < n) := by
        unfold bitsN at hok
        omega
      clear hok hF
      rcases hfail with i1 | ⟨i1, i2⟩
      all_goals
        go_wp2
        refine bodyPost_ret (v := .tuple #[.agg #[.int .i64 0, .slice (some ⟨bt, 0, none⟩) n n, .slice (some ⟨bh, 0, none⟩) n n, .map (some bf), .bool false], .bool false]) (by simp [results, Try.results46, go_sem, z0, z1, z2, z3, z4]; try rfl) rfl ?_
        refine ⟨by rw [HRR.out, HF.out]; exact ⟨_, _, _, _, _, rfl, by simp [Value.oneCell']⟩, ?_⟩
        have hb2 := LW.out.2.2.2.2.2.trans (B2.out.mono LW.out.2.2.2.2.2.size)
        exact hb2.trans ((((((Keep.refl _ w2).setEq _ _).setEq _ _).setEq _ _).setEq _ _).setEq _ _ |>.below (B := w.heap.size) hb2.size (fun i hi => by rw [hi]; exact Nat.le_refl _))
end Go.Proofs.Ytlmngghkhnnaeaa
