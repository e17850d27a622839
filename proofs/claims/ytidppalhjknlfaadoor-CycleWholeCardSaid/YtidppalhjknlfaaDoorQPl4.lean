/- plan.Put. -/
import Derived.Test.YtidppalhjknlfaaDoorQPl3
import Derived.Test.YtidppalhjknlfaaDoorQLint
import Derived.Stop.RegionWithIn
namespace Go.Proofs.YtidppalhjknlfaaDoor
open Go.RowKit Go.Shelf
set_option maxRecDepth 100000
set_option maxHeartbeats 1000000
set_option linter.unusedVariables false
set_option linter.unusedSimpArgs false
attribute [local go_sem] Oper.semAt_some
theorem wp_strict {P : Program} {c : Code} {Q : Exit → Act → World → Prop} {a : Act} {w : World} (h : Code.wp P c (fun e a w => match e with | .normal => Q .normal a w | _ => False) a w) : Code.wp P c Q a w :=
  wp_mono h (fun e a w he => by cases e <;> first | exact he | exact he.elim)
theorem keep_row {w w' : World} {row : Option Nat} (h : w.grownBy w' row) : Keep (fun i => row = some i) w w' :=
  ⟨h.os, h.tape, h.output, h.size, fun k hk hne => h.block k hk (fun e => hne e.symm)⟩
theorem boxBS_own {β : Type} (B : Nat) (T : TypeId) (f : β → ByteArray) (n₀ : Nat) : OwnFrom n₀ (fun (s : β) W => ∃ v, Boxed W B T v ∧ BS W v (f s)) := by
  rintro s X Y row ⟨v, hv, hs⟩ hg hr
  have hn : ∀ b o x, X.cell? ⟨b, o, none⟩ = some (.int .u8 x) → ¬ row = some b := fun b o x hc e => by
    obtain ⟨_, ob, ho, hcl⟩ := hr b e
    cases ob <;> simp_all [World.cell?, Obj.isCells]
  refine ⟨v, ?_, hs.keep (keep_row hg) hn⟩
  refine hv.kept hg (fun e => ?_)
  obtain ⟨_, ob, ho, hcl⟩ := hr B e.symm
  rw [show X.heap[B]? = _ from hv] at ho; cases ho; cases hcl
/-- bytes of numbers behind others -/
def encL (N : Fin 5 → Int) (s : ByteArray) (pre : List (Fin 5)) : ByteArray := pre.foldl (fun s x => s ++ i8 (N x)) s
theorem encL_snoc (N : Fin 5 → Int) (s : ByteArray) (pre : List (Fin 5)) (x : Fin 5) : encL N s (pre ++ [x]) = encL N s pre ++ i8 (N x) := by simp [encL]
theorem encL_size (N : Fin 5 → Int) : ∀ (pre : List (Fin 5)) (s : ByteArray), (encL N s pre).size = s.size + 8 * pre.length
  | [], s => by simp [encL]
  | x :: pre, s => by
    show (encL N (s ++ i8 (N x)) pre).size = _
    rw [encL_size N pre, size_append, i8_size, List.length_cons]; omega
def encT (s : ByteArray) (L : List Tr) : ByteArray := L.foldl (fun s t => s ++ i8 t.upto ++ i8 t.price) s
theorem encT_snoc (s : ByteArray) (L : List Tr) (t : Tr) : encT s (L ++ [t]) = encT s L ++ i8 t.upto ++ i8 t.price := by simp [encT]
theorem encT_size : ∀ (L : List Tr) (s : ByteArray), (encT s L).size = s.size + 16 * L.length
  | [], s => by simp [encT]
  | t :: L, s => by
    show (encT (s ++ i8 t.upto ++ i8 t.price) L).size = _
    rw [encT_size L, size_append, size_append, i8_size, i8_size, List.length_cons]; omega
/-- a plan's bytes -/
def Pl.enc (p : Pl) : ByteArray := encT (encL p.num (be8 p.id) NUMS ++ i8 p.tiers.length) p.tiers
theorem othersN_below {w w' : World} (hb : Below w.heap.size w w') : KeepsOthers w w' := KeepsOthers.of_grownBy (grownN_below hb) (fun _ _ h _ => by cases h)
theorem BS.boxset {w : World} {B : Nat} {T : TypeId} {a : Option Addr} {n c : Nat} {v : Value} {s : ByteArray} (h : BS w v s) (hB : Boxed w B T (.slice a n c)) (u : Value) : BS (w.setCell ⟨B, 0, none⟩ u) v s :=
  h.keep ((Keep.refl (fun i => i = B) w).setCell (p := ⟨B, 0, none⟩) (.inl rfl) u) (fun b o x hc e => by
    subst e
    rw [blk_cell (show w.heap[b]? = _ from hB)] at hc
    match o, hc with
    | 0, hc => simp at hc
    | o + 1, hc => simp at hc)
theorem KpN.boxset {w : World} {B : Nat} {T : TypeId} {v : Value} (hB : Boxed w B T v) (hT : T ≠ 113 ∧ T ≠ 114) (u : Value) : KpN w (w.setCell ⟨B, 0, none⟩ u) :=
  KpN.keep ((Keep.refl (fun i => i = B) w).setCell (p := ⟨B, 0, none⟩) (.inl rfl) u) (fun k c e z hk he hkB => by
    subst hkB
    rw [show w.heap[k]? = _ from hB] at hk
    cases hk
    rcases he with he | he
    · exact hT.1 he
    · exact hT.2 he)
theorem pput_no (p : Pl) (v : Value) (w : World) (hv : GR shT w v p.tiers) (hck : plchk p = false) :
    Calls Tryd.prog 37 #[p.val v] w fun e w' => e = .returned (.tuple #[.slice none 0 0, .int .i64 1]) ∧ Below w.heap.size w w' := by
  obtain ⟨va, vc, rfl, _, _, _⟩ := hv.shape
  have hba : Below w.heap.size w (w.alloc (.cells #[.int .u32 p.id, .int .i64 p.daily, .int .i64 p.monthly, .int .i64 p.over, .int .i64 p.roll, .int .i64 p.base, .slice va p.tiers.length vc] 48)) := (Below.refl _ _).alloc (Nat.le_refl _) _
  have HCK := Lib.hid (pcheck_any p _ _ (hv.below hba))
  have q0 := blk_new w (.cells #[.int .u32 p.id, .int .i64 p.daily, .int .i64 p.monthly, .int .i64 p.over, .int .i64 p.roll, .int .i64 p.base, .slice va p.tiers.length vc] 48)
  have c0 := blk_cell q0 0
  have c1 := blk_cell q0 1
  have c2 := blk_cell q0 2
  have c3 := blk_cell q0 3
  have c4 := blk_cell q0 4
  have c5 := blk_cell q0 5
  have c6 := blk_cell q0 6
  have HBA := Lib.hid hba
  unfold Pl.val at HCK ⊢
  rw [hck] at HCK
  clear hv hba q0 hck
  go_enter Tryd.func37, Tryd.ntmps37
  go_wp2_with fail
  refine HCK.out.mono ?_
  rintro e w1 ⟨rfl, hb⟩
  have HB1 := Lib.hid (HBA.out.trans (hb.mono HBA.out.size))
  clear hb
  go_wp2
  go_ret2
  exact ⟨rfl, HB1.out⟩
theorem pput_yes (p : Pl) (v : Value) (hid : 0 ≤ p.id ∧ p.id ≤ 4294967295) (w : World) (hv : GR shT w v p.tiers) (hck : plchk p = true) :
    Calls Tryd.prog 37 #[p.val v] w fun e w' => ∃ v', e = .returned (.tuple #[v', .int .i64 0]) ∧ BS w' v' p.enc ∧ Below w.heap.size w w' := by
  obtain ⟨va, vc, rfl, _, _, _⟩ := hv.shape
  have hba : Below w.heap.size w (w.alloc (.cells #[.int .u32 p.id, .int .i64 p.daily, .int .i64 p.monthly, .int .i64 p.over, .int .i64 p.roll, .int .i64 p.base, .slice va p.tiers.length vc] 48)) := (Below.refl _ _).alloc (Nat.le_refl _) _
  have HCK := Lib.hid (pcheck_any p _ _ (hv.below hba))
  have HA := Lib.hid numbers_any
  have hcells := Pl.num_cell p (.slice va p.tiers.length vc)
  have HV := Lib.hid (hv.below hba)
  have HVw := Lib.hid hv
  have HCE := Lib.hid hcells
  have q0 := blk_new w (.cells #[.int .u32 p.id, .int .i64 p.daily, .int .i64 p.monthly, .int .i64 p.over, .int .i64 p.roll, .int .i64 p.base, .slice va p.tiers.length vc] 48)
  have c0 := blk_cell q0 0
  have c1 := blk_cell q0 1
  have c2 := blk_cell q0 2
  have c3 := blk_cell q0 3
  have c4 := blk_cell q0 4
  have c5 := blk_cell q0 5
  have c6 := blk_cell q0 6
  have Q0 := Lib.hid q0
  have HBA := Lib.hid hba
  have HU := Lib.hid fun (W : World) => uint_w (.slice none 0 0) ByteArray.empty p.id hid.1 (by omega) W (BS.nil _) (by decide)
  rw [show ByteArray.empty ++ be8 p.id = be8 p.id by simp] at HU
  have tw : IntKind.u64.wrap p.id = p.id := by rw [IntKind.wrap_u64]; omega
  have hlen : p.tiers.length ≤ 4 := by
    unfold plchk tchk at hck
    simp only [Bool.and_eq_true, decide_eq_true_eq] at hck
    exact hck.2.2.1.2
  obtain ⟨N, hN⟩ : ∃ N, N = p.num := ⟨_, rfl⟩
  obtain ⟨R, hR⟩ : ∃ R, R = p.enc := ⟨_, rfl⟩
  have HN := Lib.hid hN
  have HR := Lib.hid hR
  rw [← hR]
  unfold Pl.val at HCK ⊢
  rw [hck] at HCK
  clear hv hcells hba q0 hck hN hR hid
  refine (callsIn_wide (n := 9)).1 ?_
  refine callsIn_of_wp_marks Tryd.func37 rfl trivial ?_ rfl
  simp only [Tryd.ntmps37, List.size_toArray, List.length_cons, List.length_nil, Nat.reduceAdd, Nat.reduceSub, Array.replicate_succ, Array.replicate_zero, List.push_toArray, List.append_toArray, List.nil_append, List.cons_append]
  gi_wp2_with (first
    | (refine ⟨trivial, ?_⟩; gi_at_call 56; refine (callsIn_wide.2 HCK.out).mono ?_; rintro e w1 ⟨rfl, hb⟩
       have q1 := (Keep.ofBelow hb (fun _ => False)).blk Q0.out (fun h => h)
       have d0 := blk_cell q1 0
       have Q1 := Lib.hid q1
       have HB1 := Lib.hid (HBA.out.trans (hb.mono HBA.out.size))
       have HV1 := Lib.hid (HV.out.below hb)
       clear hb q1)
    | (refine ⟨trivial, ?_⟩; gi_at_call 57; refine (callsIn_wide.2 (HU.out _)).mono ?_; rintro e w2 ⟨v2, rfl, ho, hb⟩
       obtain ⟨a2, c2', rfl⟩ := ho.size
       have Q2 := Lib.hid ((Keep.ofBelow hb (fun _ => False)).blk Q1.out (fun h => h))
       have HB2 := Lib.hid (HB1.out.trans (hb.mono HB1.out.size))
       have HV2 := Lib.hid (HV1.out.below hb)
       have HO2 := Lib.hid ho.bs
       clear hb ho)
    | (refine ⟨trivial, ?_⟩; gi_at_call 55; refine (callsIn_wide.2 (HA.out _ _)).mono ?_; rintro e w' ⟨rfl, rfl⟩))
  have q0 := blk_alloc (blk_alloc Q2.out (.cells #[.slice a2 (be8 p.id).size c2'] 68)) (.cells #[.pointer (some ⟨w.heap.size, 0, none⟩)] 113)
  have q3 := blk_newAt (w := w2.alloc (.cells #[.slice a2 (be8 p.id).size c2'] 68)) (k := w2.heap.size + 1) (by simp) (.cells #[.pointer (some ⟨w.heap.size, 0, none⟩)] 113)
  have bB := (Boxed.new w2 68 (.slice a2 (be8 p.id).size c2')).alloc (.cells #[.pointer (some ⟨w.heap.size, 0, none⟩)] 113)
  have hs0 := (HO2.out.alloc (.cells #[.slice a2 (be8 p.id).size c2'] 68)).alloc (.cells #[.pointer (some ⟨w.heap.size, 0, none⟩)] 113)
  have h2s := HB2.out.size
  have hwl : w.heap.size < w2.heap.size := blk_lt Q2.out
  have hB0 : Below w.heap.size w ((w2.alloc (.cells #[.slice a2 (be8 p.id).size c2'] 68)).alloc (.cells #[.pointer (some ⟨w.heap.size, 0, none⟩)] 113)) := (HB2.out.alloc h2s _).alloc (by simp; omega) _
  obtain ⟨W0, hW0⟩ : ∃ W0, (w2.alloc (.cells #[.slice a2 (be8 p.id).size c2'] 68)).alloc (.cells #[.pointer (some ⟨w.heap.size, 0, none⟩)] 113) = W0 := ⟨_, rfl⟩
  have hsz : W0.heap.size = w2.heap.size + 2 := by rw [← hW0]; simp
  rw [hW0] at q0 q3 bB hs0 hB0 ⊢
  clear hW0
  refine wpIn_rangeFunc_ownH rfl (by decide) (gf := 70) (lb := #[.pointer (some ⟨w2.heap.size + 1, 0, none⟩)]) rfl trivial (enters_of Tryd.func70 (by kernel_rfl) rfl)
    (nums1_stops (9 - 1) (by decide) w.heap.size (w2.heap.size + 1) W0 q3) KpN.trans (fun W l o o' _ h hc _ => KpN.putObj W l o o' h hc) (Below.refl _ _) (fun _ => rfl)
    (fun pre W => ((∃ v, Boxed W w2.heap.size 68 v ∧ BS W v (encL N (be8 p.id) pre)) ∧ W.heap[w.heap.size]? = some (.cells #[.int .u32 p.id, .int .i64 p.daily, .int .i64 p.monthly, .int .i64 p.over, .int .i64 p.roll, .int .i64 p.base, .slice va p.tiers.length vc] 48 (0, 0))) ∧ Below w.heap.size w W)
    (fun _ _ _ => False)
    (OwnFrom.and (OwnFrom.and (boxBS_own _ _ (fun pre => encL N (be8 p.id) pre) _) (blk_own _ _ _ _)) (ownFrom_below (Nat.le_refl _) (by omega)))
    (fun _ _ _ _ _ hs _ _ => hs)
    ⟨⟨⟨_, bB, hs0⟩, q0⟩, hB0⟩
    (fun x a' _ => a' = { tmps := #[.agg #[.int .u32 p.id, .int .i64 p.daily, .int .i64 p.monthly, .int .i64 p.over, .int .i64 p.roll, .int .i64 p.base, .slice va p.tiers.length vc], .pointer (some ⟨w.heap.size, 0, none⟩), .slice none 0 0, .int .i64 0, .pointer (some ⟨w2.heap.size, 0, none⟩), .pointer (some ⟨w.heap.size, x.val + 1, none⟩), undef, undef, .agg #[.int .u32 p.id, .int .i64 p.daily, .int .i64 p.monthly, .int .i64 p.over, .int .i64 p.roll, .int .i64 p.base, .slice va p.tiers.length vc], .bool true, .bool false, .pointer (some ⟨w.heap.size, 0, none⟩), .int .u32 p.id, .int .u64 p.id, .slice a2 (be8 p.id).size c2', .func (Fn.func 70) #[] #[.pointer (some ⟨w2.heap.size + 1, 0, none⟩)], .pointer (some ⟨w.heap.size, x.val + 1, none⟩), .int .i64 (mostN x), undef, undef, undef, undef, undef, undef, undef, undef, undef, undef, undef, undef, undef, undef, undef, undef, undef, undef, undef, undef, undef, undef, undef, undef, undef, undef], defers := [] })
    (fun _ _ _ _ _ _ hs _ _ => hs)
    ?assign ?body ?done ?stop
  case assign =>
    rintro l pre x W K hI hK
    gi_wp2
    exact hK _ _ (KeepsFrom.refl _ _) (KpN.below (Below.refl _ _)) hI rfl
  case body =>
    rintro l pre x a' W hl0 ⟨r, hr0⟩ ⟨⟨⟨v, hv, hs⟩, h1⟩, hB⟩ rfl hlt
    have hsl := encL_size N pre (be8 p.id)
    obtain ⟨va5, vc5, rfl⟩ := hs.len
    have kc : W.drew.cell? ⟨w2.heap.size, 0, none⟩ = some (.slice va5 (encL N (be8 p.id) pre).size vc5) := hv.cell
    have kn : W.drew.cell? ⟨w.heap.size, x.val + 1, none⟩ = some (.int .i64 (N x)) := by
      show W.cell? _ = _
      rw [blk_cell h1, HN.out]
      have := HCE.out x
      simp only [Pl.cells] at this
      simpa using this
    have HI := Lib.hid (int_w (.slice va5 (encL N (be8 p.id) pre).size vc5) (encL N (be8 p.id) pre) (N x) W.drew hs (by rw [hsl, show (be8 p.id).size = 8 from be_size _ 8]; omega))
    have H1 := Lib.hid h1
    have HB := Lib.hid hB
    have HVV := Lib.hid hv
    have hsW := hB.size
    have hbW : w2.heap.size < W.heap.size := hv.lt
    have hEs := encL_snoc N (be8 p.id) pre x
    obtain ⟨s1, hs1⟩ : ∃ s1, s1 = encL N (be8 p.id) pre := ⟨_, rfl⟩
    rw [← hs1] at kc HI HVV hEs
    have HES := Lib.hid hEs
    clear hs hv h1 hB hsl hs1 hEs
    gi_wp2
    gi_region_with (refine ⟨trivial, ?_⟩; gi_at_call 40; refine (CallsIn.inRound l (callsIn_wide.2 HI.out)).mono ?_; rintro e w5 ⟨v5, rfl, ho, hb⟩
                    obtain ⟨a5, c5', rfl⟩ := ho.size
                    have HO5 := Lib.hid ho.bs
                    have HB5 := Lib.hid hb
                    have bv5 := (Keep.ofBelow hb (fun _ => False)).blk (show W.drew.heap[w2.heap.size]? = _ from HVV.out) (fun h => h)
                    have k5 := blk_cell bv5 0
                    have f5 := blk_frozen bv5 0
                    have BV5 := Lib.hid bv5
                    clear ho hb bv5)
    all_goals
      gi_wp2
      have hbW5 : Below W.heap.size W w5 := ((Below.refl W.heap.size W).drew).trans HB5.out
      have bx5 : Boxed w5 w2.heap.size 68 (.slice va5 s1.size vc5) := BV5.out
      refine ⟨((othersN_below hbW5).trans (KeepsOthers.setCell _ _ _)).from _, (KpN.below hbW5).trans (KpN.boxset bx5 (by decide) _), ⟨⟨_, bx5.set _, ?_⟩, ?_⟩, (HB.out.trans (hbW5.mono hsW)).setCell (p := ⟨w2.heap.size, 0, none⟩) (by simp; omega) _⟩
      · rw [HES.out]
        have hbb := HO5.out.boxset bx5 (.slice a5 (s1.size + (i8 (N x)).size) c5')
        rw [size_append] at hbb
        exact hbb
      · exact ((Keep.ofBelow hbW5 (fun i => i = w2.heap.size)).setCell (p := ⟨w2.heap.size, 0, none⟩) (.inl rfl) _).blk H1.out (fun e => by omega)
  case done =>
    rintro D ys W hD rfl ⟨⟨⟨v, hv, hs⟩, h1⟩, hB⟩ hK
    have hsl := encL_size N NUMS (be8 p.id)
    obtain ⟨va5, vc5, rfl⟩ := hs.len
    obtain ⟨s1, hs1⟩ : ∃ s1, s1 = encL N (be8 p.id) NUMS := ⟨_, rfl⟩
    rw [← hs1] at hs hv hsl
    have hs1l : s1.size = 48 := by rw [hsl, show (be8 p.id).size = 8 from be_size _ 8]; rfl
    have kc := hv.cell
    have d6 := blk_cell h1 6
    have HI := Lib.hid (int_w (.slice va5 s1.size vc5) s1 (p.tiers.length : Int) W hs (by omega))
    have HS1 := Lib.hid hs1
    have HSL := Lib.hid hs1l
    have HB := Lib.hid hB
    have HVV := Lib.hid hv
    have HKD := Lib.hid hK
    have H1 := Lib.hid h1
    clear hs hv h1 hB hsl hs1 hs1l hK HA HCK HU c0 c1 c2 c3 c4 c5 c6
    gi_wp2_with (refine ⟨trivial, ?_⟩; gi_at_call 40; refine (callsIn_wide.2 HI.out).mono ?_; rintro e w5 ⟨v5, rfl, ho, hb⟩
                 obtain ⟨a5, c5', rfl, _, _⟩ := ho.bs.len2 (size_append s1 (i8 (p.tiers.length : Int)))
                 have HO5 := Lib.hid ho.bs
                 have HB5 := Lib.hid hb
                 have bv5 := (Keep.ofBelow hb (fun _ => False)).blk (show W.heap[w2.heap.size]? = _ from HVV.out) (fun h => h)
                 have k5 := blk_cell bv5 0
                 have f5 := blk_frozen bv5 0
                 have BV5 := Lib.hid bv5
                 have n6 := blk_cell (((Keep.ofBelow hb (fun i => i = w2.heap.size)).setCell (p := ⟨w2.heap.size, 0, none⟩) (.inl rfl) (.slice a5 (s1.size + (i8 (p.tiers.length : Int)).size) c5')).blk H1.out (fun e => by omega)) 6
                 clear ho hb bv5)
    have hbW5 : Below W.heap.size W w5 := HB5.out
    have bx5 : Boxed w5 w2.heap.size 68 (.slice va5 s1.size vc5) := BV5.out
    obtain ⟨s2, hs2⟩ : ∃ s2, s2 = s1 ++ i8 (p.tiers.length : Int) := ⟨_, rfl⟩
    obtain ⟨n2, hn2⟩ : ∃ n2, n2 = s1.size + (i8 (p.tiers.length : Int)).size := ⟨_, rfl⟩
    have hn56 : n2 = 56 := by rw [hn2, HSL.out, i8_size]
    rw [← hs2, ← hn2] at HO5
    rw [← hn2] at n6 ⊢
    have hz2 : s2.size = n2 := by rw [hs2, hn2, size_append]
    obtain ⟨W6, hW6⟩ : ∃ W6, W6 = w5.setCell ⟨w2.heap.size, 0, none⟩ (.slice a5 n2 c5') := ⟨_, rfl⟩
    rw [← hW6]
    have bx6 : Boxed W6 w2.heap.size 68 (.slice a5 n2 c5') := by rw [hW6]; exact bx5.set _
    have bs6 : BS W6 (.slice a5 n2 c5') s2 := by rw [hW6]; exact HO5.out.boxset bx5 _
    have hB6 : Below w.heap.size w W6 := by rw [hW6]; exact (HB.out.trans (hbW5.mono HB.out.size)).setCell (p := ⟨w2.heap.size, 0, none⟩) (by simp; omega) _
    have hK6 : W6.heap[D]? = some (.deferred (some [])) := by rw [hW6]; exact ((Keep.ofBelow hbW5 (fun i => i = w2.heap.size)).setCell (p := ⟨w2.heap.size, 0, none⟩) (.inl rfl) _).blk HKD.out (fun e => by omega)
    have HBX6 := Lib.hid (show ∃ v, Boxed W6 w2.heap.size 68 v ∧ BS W6 v (encT s2 (p.tiers.take 0)) from ⟨_, bx6, bs6⟩)
    have HB6 := Lib.hid hB6
    have HK6 := Lib.hid hK6
    have hRR : R = encT s2 p.tiers := by rw [HR.out, hs2, HS1.out, HN.out]; rfl
    have HRR := Lib.hid hRR
    have HS2 := Lib.hid (show s2.size = 56 by rw [hz2, hn56])
    have hDl : w2.heap.size < D := by omega
    obtain ⟨n, hn⟩ : ∃ n, n = p.tiers.length := ⟨_, rfl⟩
    have HNN := Lib.hid hn
    have hn4 : n ≤ 4 := by omega
    rw [← hn]
    clear hs2 hn2 hn56 hz2 hW6 bx6 bs6 hB6 hK6 hRR hn hbW5 bx5 k5 f5 n6 kc d6 HR HI HB HVV HKD H1 hlen
    gi_loopw [31] (fun i wr => ∃ j : Nat, j ≤ n ∧ i = .int .i64 j ∧ Hid (∃ v, Boxed wr w2.heap.size 68 v ∧ BS wr v (encT s2 (p.tiers.take j))) ∧ Hid (wr.heap[D]? = some (.deferred (some []))) ∧ Hid (Below w.heap.size w wr)) (fun i _ => n - (intOf i).toNat)
    case atStart => exact ⟨0, by omega, rfl, HBX6, HK6, HB6⟩
    case round =>
      obtain ⟨j, hj, rfl, HX, HKj, HBj⟩ := hrel
      obtain ⟨v, hv, hs⟩ := HX.out
      have hsz1 := encT_size (p.tiers.take j) s2
      obtain ⟨va6, vc6, rfl⟩ := hs.len
      have hk0 := hv.cell
      have hwj := HBj.out.size
      by_cases hlt : j < n
      · obtain ⟨t, ht⟩ : ∃ t, p.tiers[j]? = some t := ⟨_, List.getElem?_eq_getElem (by rw [← HNN.out]; exact hlt)⟩
        have htk : p.tiers.take (j + 1) = p.tiers.take j ++ [t] := by rw [List.take_add_one, ht]; rfl
        have hee := encT_snoc s2 (p.tiers.take j) t
        rw [← htk] at hee
        obtain ⟨g, off, cap', he, t0, t1⟩ := (HVw.out.below HBj.out).at2 ht
        injection he with he m1 m2
        subst he; subst m2
        clear m1
        have hi1 : ((j : Int) < (n : Int)) := by omega
        have hsj : (p.tiers.take j).length ≤ 4 := by rw [List.length_take]; omega
        have hs56 := HS2.out
        obtain ⟨s3, hs3⟩ : ∃ s3, s3 = encT s2 (p.tiers.take j) := ⟨_, rfl⟩
        rw [← hs3] at hs hv hsz1 hk0 hee
        have h3l : s3.size ≤ 1000 := by omega
        have HEE := Lib.hid hee
        have HSS := Lib.hid hs
        have HVV := Lib.hid hv
        clear hs3 hsz1 hs56 hsj hs hv hee htk ht
        gi_wp2
        obtain ⟨W7, hW7⟩ : ∃ W7, W7 = wr.alloc (.cells #[.int .i64 t.upto, .int .i64 t.price] 84) := ⟨_, rfl⟩
        have hb7 : Below wr.heap.size wr W7 := by rw [hW7]; exact (Below.refl _ _).alloc (Nat.le_refl _) _
        have hz7 : W7.heap[wr.heap.size]? = some (.cells #[.int .i64 t.upto, .int .i64 t.price] 84 (0, 0)) := by rw [hW7]; exact blk_new wr _
        rw [← hW7]
        have bv7 : Boxed W7 w2.heap.size 68 (.slice va6 s3.size vc6) := (Keep.ofBelow hb7 (fun _ => False)).blk (show wr.heap[w2.heap.size]? = _ from HVV.out) (fun h => h)
        have kb : W7.drew.cell? ⟨w2.heap.size, 0, none⟩ = some (.slice va6 s3.size vc6) := bv7.cell
        have kt0 : W7.drew.cell? ⟨wr.heap.size, 0, none⟩ = some (.int .i64 t.upto) := blk_cell hz7 0
        have kt1 : W7.drew.cell? ⟨wr.heap.size, 1, none⟩ = some (.int .i64 t.price) := blk_cell hz7 1
        have HI1 := Lib.hid (int_w (.slice va6 s3.size vc6) s3 t.upto W7.drew (show BS W7.drew _ _ from HSS.out.below hb7.drew) (by omega))
        have HI2 := Lib.hid fun (w8 : World) (v8 : Value) (h : BS w8 v8 (s3 ++ i8 t.upto)) => int_w v8 (s3 ++ i8 t.upto) t.price w8 h (by rw [size_append, i8_size]; omega)
        have HZ7 := Lib.hid (show W7.drew.heap[wr.heap.size]? = _ from hz7)
        have BV7 := Lib.hid (show W7.drew.heap[w2.heap.size]? = _ from bv7)
        have HBW7 := Lib.hid (show Below wr.heap.size wr W7.drew from hb7.drew)
        clear hW7 hb7 hz7 bv7 t0 t1 hk0
        have CC := Lib.hid fun (X : World) (h2 : X.heap[wr.heap.size]? = some (.cells #[.int .i64 t.upto, .int .i64 t.price] 84 (0, 0))) => show X.cell? ⟨wr.heap.size, 0, none⟩ = some (.int .i64 t.upto) ∧ X.cell? ⟨wr.heap.size, 1, none⟩ = some (.int .i64 t.price) from ⟨blk_cell h2 0, blk_cell h2 1⟩
        have hwb : w2.heap.size < wr.heap.size := HVV.out.lt
        clear kt0 kt1
        refine wpIn_wide.2 (wp_strict ?_)
        refine wp_region_held_drew (S := (fun w' => w'.cell? ⟨wr.heap.size, 0, none⟩ = some (.int .i64 t.upto) ∧ w'.cell? ⟨wr.heap.size, 1, none⟩ = some (.int .i64 t.price))) (by kernel_rfl) ?_ (fun hHeld0 => ?_)
        · (try dsimp only)
          first | with_reducible exact CC.out _ HZ10.out | with_reducible exact CC.out _ HZ9.out | with_reducible exact CC.out _ HZ8.out | with_reducible exact CC.out _ HZ7.out
        refine takeN (v := ?_) 1 rfl (by kernel_rfl) (by kernel_rfl) (by kernel_rfl) (fun _ _ _ h => h) (by rfl) ?_ hHeld0 ?_
        rotate_left
        · intro w hSw; (try dsimp only at hSw); go_simp; with_reducible rfl
        try simp only [Act.put, List.setIfInBounds_toArray, List.set_cons_zero, List.set_cons_succ]
        refine takeN (v := ?_) 2 rfl (by kernel_rfl) (by kernel_rfl) (by kernel_rfl) (fun _ _ _ h => h) (by rfl) ?_ hHeld0 ?_
        rotate_left
        · intro w hSw; (try dsimp only at hSw); go_simp; with_reducible rfl
        try simp only [Act.put, List.setIfInBounds_toArray, List.set_cons_zero, List.set_cons_succ]
        refine takeN (v := ?_) 4 rfl (by kernel_rfl) (by kernel_rfl) (by kernel_rfl) (fun _ _ _ h => h) (by rfl) ?_ hHeld0 ?_
        rotate_left
        · intro w hSw; (try dsimp only at hSw); go_simp; with_reducible rfl
        try simp only [Act.put, List.setIfInBounds_toArray, List.set_cons_zero, List.set_cons_succ]
        refine takeN (v := ?_) 5 rfl (by kernel_rfl) (by kernel_rfl) (by kernel_rfl) (fun _ _ _ h => h) (by rfl) ?_ hHeld0 ?_
        rotate_left
        · intro w hSw; (try dsimp only at hSw); go_simp; with_reducible rfl
        try simp only [Act.put, List.setIfInBounds_toArray, List.set_cons_zero, List.set_cons_succ]
        refine wpAnyH_ready (rs := [0]) (by kernel_rfl) (by simp) ?_
        refine readyN rfl (fun K hK => ?_) ?_
        · -- operation 0
          go_simp
          refine hK.out _ _ ?_ (fun hHeld1 => ?_)
          · (try dsimp only)
            first | with_reducible exact CC.out _ HZ10.out | with_reducible exact CC.out _ HZ9.out | with_reducible exact CC.out _ HZ8.out | with_reducible exact CC.out _ HZ7.out
          clear hK K hHeld0
          try simp only [Act.put, List.setIfInBounds_toArray, List.set_cons_zero, List.set_cons_succ]
          refine wpAnyH_ready (rs := [3]) (by kernel_rfl) (by simp) ?_
          refine readyN rfl (fun K hK => ?_) ?_
          · -- operation 3
            go_simp
            first
              | (go_at_call 40; refine HI1.out.mono ?_; rintro e w8 ⟨v8, rfl, ho, hb⟩
                 obtain ⟨a8, c8', rfl, _, _⟩ := ho.bs.len2 (size_append s3 (i8 t.upto))
                 have HO8 := Lib.hid ho.bs
                 have HB8 := Lib.hid hb
                 have HZ8 := Lib.hid ((Keep.ofBelow hb (fun _ => False)).blk HZ7.out (fun h => h))
                 have BV8 := Lib.hid ((Keep.ofBelow hb (fun _ => False)).blk BV7.out (fun h => h))
                 clear ho hb HI1)
              | (go_at_call 40; refine (HI2.out _ _ HO8.out).mono ?_; rintro e w9 ⟨v9, rfl, ho, hb⟩
                 obtain ⟨a9, c9', rfl, _, _⟩ := ho.bs.len2 (show _ = s3.size + (i8 t.upto).size + (i8 t.price).size by rw [size_append, size_append])
                 have HO9 := Lib.hid ho.bs
                 have HB9 := Lib.hid hb
                 have bv9 := (Keep.ofBelow hb (fun _ => False)).blk BV8.out (fun h => h)
                 have HZ9 := Lib.hid ((Keep.ofBelow hb (fun _ => False)).blk HZ8.out (fun h => h))
                 have f9 := blk_frozen bv9 0
                 have BV9 := Lib.hid bv9
                 have k9 := blk_cell bv9 0
                 have HZ10 := Lib.hid (((Keep.refl (fun i => i = w2.heap.size) w9).setCell (p := ⟨w2.heap.size, 0, none⟩) (.inl rfl) (.slice a9 (s3.size + (i8 t.upto).size + (i8 t.price).size) c9')).blk HZ9.out (fun e => by omega))
                 clear ho hb bv9 HI2)
            go_wp2_with fail
            refine hK.out _ _ ?_ (fun hHeld2 => ?_)
            · (try dsimp only)
              first | with_reducible exact CC.out _ HZ10.out | with_reducible exact CC.out _ HZ9.out | with_reducible exact CC.out _ HZ8.out | with_reducible exact CC.out _ HZ7.out
            clear hK K hHeld1
            try simp only [Act.put, List.setIfInBounds_toArray, List.set_cons_zero, List.set_cons_succ]
            refine wpAnyH_ready (rs := [6]) (by kernel_rfl) (by simp) ?_
            refine readyN rfl (fun K hK => ?_) ?_
            · -- operation 6
              go_simp
              first
                | (go_at_call 40; refine HI1.out.mono ?_; rintro e w8 ⟨v8, rfl, ho, hb⟩
                   obtain ⟨a8, c8', rfl, _, _⟩ := ho.bs.len2 (size_append s3 (i8 t.upto))
                   have HO8 := Lib.hid ho.bs
                   have HB8 := Lib.hid hb
                   have HZ8 := Lib.hid ((Keep.ofBelow hb (fun _ => False)).blk HZ7.out (fun h => h))
                   have BV8 := Lib.hid ((Keep.ofBelow hb (fun _ => False)).blk BV7.out (fun h => h))
                   clear ho hb HI1)
                | (go_at_call 40; refine (HI2.out _ _ HO8.out).mono ?_; rintro e w9 ⟨v9, rfl, ho, hb⟩
                   obtain ⟨a9, c9', rfl, _, _⟩ := ho.bs.len2 (show _ = s3.size + (i8 t.upto).size + (i8 t.price).size by rw [size_append, size_append])
                   have HO9 := Lib.hid ho.bs
                   have HB9 := Lib.hid hb
                   have bv9 := (Keep.ofBelow hb (fun _ => False)).blk BV8.out (fun h => h)
                   have HZ9 := Lib.hid ((Keep.ofBelow hb (fun _ => False)).blk HZ8.out (fun h => h))
                   have f9 := blk_frozen bv9 0
                   have BV9 := Lib.hid bv9
                   have k9 := blk_cell bv9 0
                   have HZ10 := Lib.hid (((Keep.refl (fun i => i = w2.heap.size) w9).setCell (p := ⟨w2.heap.size, 0, none⟩) (.inl rfl) (.slice a9 (s3.size + (i8 t.upto).size + (i8 t.price).size) c9')).blk HZ9.out (fun e => by omega))
                   clear ho hb bv9 HI2)
              go_wp2_with fail
              refine hK.out _ _ ?_ (fun hHeld3 => ?_)
              · (try dsimp only)
                first | with_reducible exact CC.out _ HZ10.out | with_reducible exact CC.out _ HZ9.out | with_reducible exact CC.out _ HZ8.out | with_reducible exact CC.out _ HZ7.out
              clear hK K hHeld2
              try simp only [Act.put, List.setIfInBounds_toArray, List.set_cons_zero, List.set_cons_succ]
              refine wpAnyH_ready (rs := [7]) (by kernel_rfl) (by simp) ?_
              refine readyN rfl (fun K hK => ?_) ?_
              · -- operation 7
                go_simp
                refine hK.out _ _ ?_ (fun hHeld4 => ?_)
                · (try dsimp only)
                  first | with_reducible exact CC.out _ HZ10.out | with_reducible exact CC.out _ HZ9.out | with_reducible exact CC.out _ HZ8.out | with_reducible exact CC.out _ HZ7.out
                clear hK K hHeld3
                try simp only [Act.put, List.setIfInBounds_toArray, List.set_cons_zero, List.set_cons_succ]
                refine wpAnyH_done (by kernel_rfl) ?_ _
                dsimp only
                gi_wp2
                have bx9 : Boxed w9 w2.heap.size 68 (.slice va6 s3.size vc6) := BV9.out
                have hb9 : Below wr.heap.size wr w9 := (HBW7.out.trans (HB8.out.mono HBW7.out.size)).trans (HB9.out.mono (Nat.le_trans HBW7.out.size HB8.out.size))
                have hk10 := (Keep.ofBelow hb9 (fun i => i = w2.heap.size)).setCell (p := ⟨w2.heap.size, 0, none⟩) (.inl rfl) (.slice a9 (s3.size + (i8 t.upto).size + (i8 t.price).size) c9')
                have HX' := Lib.hid (show ∃ v, Boxed (w9.setCell ⟨w2.heap.size, 0, none⟩ (.slice a9 (s3.size + (i8 t.upto).size + (i8 t.price).size) c9')) w2.heap.size 68 v ∧ BS (w9.setCell ⟨w2.heap.size, 0, none⟩ (.slice a9 (s3.size + (i8 t.upto).size + (i8 t.price).size) c9')) v (encT s2 (p.tiers.take (j + 1))) from ⟨_, bx9.set _, by rw [HEE.out]; exact HO9.out.boxset bx9 _⟩)
                have HK' := Lib.hid (hk10.blk HKj.out (fun e => by omega))
                have HB' := Lib.hid ((HBj.out.trans (hb9.mono hwj)).setCell (p := ⟨w2.heap.size, 0, none⟩) (by simp; omega) (.slice a9 (s3.size + (i8 t.upto).size + (i8 t.price).size) c9'))
                go_roundw
                case rel => exact ⟨j + 1, by omega, by simp, HX', HK', HB'⟩
                case measure => simp [intOf]; omega
              exact AllReadyH.nil
            exact AllReadyH.nil
          exact AllReadyH.nil
        exact AllReadyH.nil
      · obtain rfl : j = n := by omega
        have hfull : p.tiers.take j = p.tiers := by rw [HNN.out]; exact List.take_length
        rw [hfull, ← HRR.out] at hs hk0
        have HSF := Lib.hid hs
        clear hfull hs hv hsz1 HX
        gi_wp2
        refine ⟨by simp, .inl ⟨_, _, rfl, run_takeDeferred HKj.out, ?_⟩⟩
        refine ⟨_, (by simp [results, Tryd.results37, go_sem]; rfl), ?_⟩
        refine ⟨_, rfl, HSF.out.keep (keep_row (grownBy_putObj' _ D (Obj.deferred none))) (fun b o x hc e => ?_), HBj.out.trans (belowK_b (w := w) (Nat.le_refl _) _ D _ _ (by omega) HKj.out rfl rfl)⟩
        injection e with e
        subst e
        rw [World.cell?, HKj.out] at hc
        simp at hc
  case stop =>
    rintro D c pre W _ _ h _
    exact h.elim
end Go.Proofs.YtidppalhjknlfaaDoor
