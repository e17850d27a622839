/- plan.Put. Plans, tenants and segments in a store's pairs, in plain words. No walk here. -/
import Derived.Test.YtidppalhjknlfaaGreatDoorQMLeLaw
import Derived.Test.YtidppalhjknlfaaGreatDoorQLint
import Derived.Stop.RegionWithIn
import Derived.Test.YtidppalhjknlfaaGreatDoorQMOrd3
import Derived.Test.YtidppalhjknlfaaGreatDoorQPer
namespace Go.Proofs.YtidppalhjknlfaaGreatDoor
open Go.RowKit Go.Shelf
set_option maxRecDepth 100000
set_option maxHeartbeats 1000000
set_option linter.unusedVariables false
set_option linter.unusedSimpArgs false
attribute [local go_sem] Oper.semAt_some
theorem wp_strict {P : Program} {c : Code} {Q : Exit → Act → World → Prop} {a : Act} {w : World} (h : Code.wp P c (fun e a w => match e with | .normal => Q .normal a w | _ => False) a w) : Code.wp P c Q a w :=
  wp_mono h (fun e a w he => by cases e <;> first | exact he | exact he.elim)
theorem keep_row {w w' : World} {row : Option Nat} (h : w.grownBy w' row) : Keep (fun i => row = some i) w w' :=
  ⟨h.os, h.tape, h.output, h.size, fun k hk hne => h.block k hk (fun e => hne e.symm)⟩
theorem boxBS_own {β : Type} (B : Nat) (T : TypeId) (f : β → ByteArray) (n₀ : Nat) : OwnFrom n₀ (fun (s : β) W => ∃ v, Boxed W B T v ∧ BS W v (f s)) := by
  rintro s X Y row ⟨v, hv, hs⟩ hg hr
  have hn : ∀ b o x, X.cell? ⟨b, o, none⟩ = some (.int .u8 x) → ¬ row = some b := fun b o x hc e => by
    obtain ⟨_, ob, ho, hcl⟩ := hr b e
    cases ob <;> simp_all [World.cell?, Obj.isCells]
  refine ⟨v, ?_, hs.keep (keep_row hg) hn⟩
  refine hv.kept hg (fun e => ?_)
  obtain ⟨_, ob, ho, hcl⟩ := hr B e.symm
  rw [show X.heap[B]? = _ from hv] at ho; cases ho; cases hcl
/-- bytes of numbers behind others -/
def encL (N : Fin 5 → Int) (s : ByteArray) (pre : List (Fin 5)) : ByteArray := pre.foldl (fun s x => s ++ i8 (N x)) s
theorem encL_snoc (N : Fin 5 → Int) (s : ByteArray) (pre : List (Fin 5)) (x : Fin 5) : encL N s (pre ++ [x]) = encL N s pre ++ i8 (N x) := by simp [encL]
theorem encL_size (N : Fin 5 → Int) : ∀ (pre : List (Fin 5)) (s : ByteArray), (encL N s pre).size = s.size + 8 * pre.length
  | [], s => by simp [encL]
  | x :: pre, s => by
    show (encL N (s ++ i8 (N x)) pre).size = _
    rw [encL_size N pre, size_append, i8_size, List.length_cons]; omega
def encT (s : ByteArray) (L : List Tr) : ByteArray := L.foldl (fun s t => s ++ i8 t.upto ++ i8 t.price) s
theorem encT_snoc (s : ByteArray) (L : List Tr) (t : Tr) : encT s (L ++ [t]) = encT s L ++ i8 t.upto ++ i8 t.price := by simp [encT]
theorem encT_size : ∀ (L : List Tr) (s : ByteArray), (encT s L).size = s.size + 16 * L.length
  | [], s => by simp [encT]
  | t :: L, s => by
    show (encT (s ++ i8 t.upto ++ i8 t.price) L).size = _
    rw [encT_size L, size_append, size_append, i8_size, i8_size, List.length_cons]; omega
/-- a plan's bytes -/
def Pl.enc (p : Pl) : ByteArray := encT (encL p.num (be8 p.id) NUMS ++ i8 p.tiers.length) p.tiers
theorem othersN_below {w w' : World} (hb : Below w.heap.size w w') : KeepsOthers w w' := KeepsOthers.of_grownBy (grownN_below hb) (fun _ _ h _ => by cases h)
theorem BS.boxset {w : World} {B : Nat} {T : TypeId} {a : Option Addr} {n c : Nat} {v : Value} {s : ByteArray} (h : BS w v s) (hB : Boxed w B T (.slice a n c)) (u : Value) : BS (w.setCell ⟨B, 0, none⟩ u) v s :=
  h.keep ((Keep.refl (fun i => i = B) w).setCell (p := ⟨B, 0, none⟩) (.inl rfl) u) (fun b o x hc e => by
    subst e
    rw [blk_cell (show w.heap[b]? = _ from hB)] at hc
    match o, hc with
    | 0, hc => simp at hc
    | o + 1, hc => simp at hc)
theorem KpN.boxset {w : World} {B : Nat} {T : TypeId} {v : Value} (hB : Boxed w B T v) (hT : T ≠ 108 ∧ T ≠ 109) (u : Value) : KpN w (w.setCell ⟨B, 0, none⟩ u) :=
  KpN.keep ((Keep.refl (fun i => i = B) w).setCell (p := ⟨B, 0, none⟩) (.inl rfl) u) (fun k c e z hk he hkB => by
    subst hkB
    rw [show w.heap[k]? = _ from hB] at hk
    cases hk
    rcases he with he | he
    · exact hT.1 he
    · exact hT.2 he)
theorem pput_no (p : Pl) (v : Value) (w : World) (hv : GR shT w v p.tiers) (hck : plchk p = false) :
    Calls Tryz.prog 27 #[p.val v] w fun e w' => e = .returned (.tuple #[.slice none 0 0, .int .i64 1]) ∧ Below w.heap.size w w' := by
  obtain ⟨va, vc, rfl, _, _, _⟩ := hv.shape
  have hba : Below w.heap.size w (w.alloc (.cells #[.int .u32 p.id, .int .i64 p.daily, .int .i64 p.monthly, .int .i64 p.over, .int .i64 p.roll, .int .i64 p.base, .slice va p.tiers.length vc] 35)) := (Below.refl _ _).alloc (Nat.le_refl _) _
  have HCK := Lib.hid (pcheck_any p _ _ (hv.below hba))
  have q0 := blk_new w (.cells #[.int .u32 p.id, .int .i64 p.daily, .int .i64 p.monthly, .int .i64 p.over, .int .i64 p.roll, .int .i64 p.base, .slice va p.tiers.length vc] 35)
  have c0 := blk_cell q0 0
  have c1 := blk_cell q0 1
  have c2 := blk_cell q0 2
  have c3 := blk_cell q0 3
  have c4 := blk_cell q0 4
  have c5 := blk_cell q0 5
  have c6 := blk_cell q0 6
  have HBA := Lib.hid hba
  unfold Pl.val at HCK ⊢
  rw [hck] at HCK
  clear hv hba q0 hck
  go_enter Tryz.func27, Tryz.ntmps27
  go_wp2_with fail
  refine HCK.out.mono ?_
  rintro e w1 ⟨rfl, hb⟩
  have HB1 := Lib.hid (HBA.out.trans (hb.mono HBA.out.size))
  clear hb
  go_wp2
  go_ret2
  exact ⟨rfl, HB1.out⟩
theorem pput_yes (p : Pl) (v : Value) (hid : 0 ≤ p.id ∧ p.id ≤ 4294967295) (w : World) (hv : GR shT w v p.tiers) (hck : plchk p = true) :
    Calls Tryz.prog 27 #[p.val v] w fun e w' => ∃ v', e = .returned (.tuple #[v', .int .i64 0]) ∧ BS w' v' p.enc ∧ Below w.heap.size w w' := by
  obtain ⟨va, vc, rfl, _, _, _⟩ := hv.shape
  have hba : Below w.heap.size w (w.alloc (.cells #[.int .u32 p.id, .int .i64 p.daily, .int .i64 p.monthly, .int .i64 p.over, .int .i64 p.roll, .int .i64 p.base, .slice va p.tiers.length vc] 35)) := (Below.refl _ _).alloc (Nat.le_refl _) _
  have HCK := Lib.hid (pcheck_any p _ _ (hv.below hba))
  have HA := Lib.hid numbers_any
  have hcells := Pl.num_cell p (.slice va p.tiers.length vc)
  have HV := Lib.hid (hv.below hba)
  have HVw := Lib.hid hv
  have HCE := Lib.hid hcells
  have q0 := blk_new w (.cells #[.int .u32 p.id, .int .i64 p.daily, .int .i64 p.monthly, .int .i64 p.over, .int .i64 p.roll, .int .i64 p.base, .slice va p.tiers.length vc] 35)
  have c0 := blk_cell q0 0
  have c1 := blk_cell q0 1
  have c2 := blk_cell q0 2
  have c3 := blk_cell q0 3
  have c4 := blk_cell q0 4
  have c5 := blk_cell q0 5
  have c6 := blk_cell q0 6
  have Q0 := Lib.hid q0
  have HBA := Lib.hid hba
  have HU := Lib.hid fun (W : World) => uint_w (.slice none 0 0) ByteArray.empty p.id hid.1 (by omega) W (BS.nil _) (by decide)
  rw [show ByteArray.empty ++ be8 p.id = be8 p.id by simp] at HU
  have tw : IntKind.u64.wrap p.id = p.id := by rw [IntKind.wrap_u64]; omega
  have hlen : p.tiers.length ≤ 4 := by
    unfold plchk tchk at hck
    simp only [Bool.and_eq_true, decide_eq_true_eq] at hck
    exact hck.2.2.1.2
  obtain ⟨N, hN⟩ : ∃ N, N = p.num := ⟨_, rfl⟩
  obtain ⟨R, hR⟩ : ∃ R, R = p.enc := ⟨_, rfl⟩
  have HN := Lib.hid hN
  have HR := Lib.hid hR
  rw [← hR]
  unfold Pl.val at HCK ⊢
  rw [hck] at HCK
  clear hv hcells hba q0 hck hN hR hid
  refine (callsIn_wide (n := 9)).1 ?_
  refine callsIn_of_wp_marks Tryz.func27 rfl trivial ?_ rfl
  simp only [Tryz.ntmps27, List.size_toArray, List.length_cons, List.length_nil, Nat.reduceAdd, Nat.reduceSub, Array.replicate_succ, Array.replicate_zero, List.push_toArray, List.append_toArray, List.nil_append, List.cons_append]
  gi_wp2_with (first
    | (refine ⟨trivial, ?_⟩; gi_at_call 49; refine (callsIn_wide.2 HCK.out).mono ?_; rintro e w1 ⟨rfl, hb⟩
       have q1 := (Keep.ofBelow hb (fun _ => False)).blk Q0.out (fun h => h)
       have d0 := blk_cell q1 0
       have Q1 := Lib.hid q1
       have HB1 := Lib.hid (HBA.out.trans (hb.mono HBA.out.size))
       have HV1 := Lib.hid (HV.out.below hb)
       clear hb q1)
    | (refine ⟨trivial, ?_⟩; gi_at_call 50; refine (callsIn_wide.2 (HU.out _)).mono ?_; rintro e w2 ⟨v2, rfl, ho, hb⟩
       obtain ⟨a2, c2', rfl⟩ := ho.size
       have Q2 := Lib.hid ((Keep.ofBelow hb (fun _ => False)).blk Q1.out (fun h => h))
       have HB2 := Lib.hid (HB1.out.trans (hb.mono HB1.out.size))
       have HV2 := Lib.hid (HV1.out.below hb)
       have HO2 := Lib.hid ho.bs
       clear hb ho)
    | (refine ⟨trivial, ?_⟩; gi_at_call 51; refine (callsIn_wide.2 (HA.out _ _)).mono ?_; rintro e w' ⟨rfl, rfl⟩))
  have q0 := blk_alloc (blk_alloc Q2.out (.cells #[.slice a2 (be8 p.id).size c2'] 76)) (.cells #[.pointer (some ⟨w.heap.size, 0, none⟩)] 108)
  have q3 := blk_newAt (w := w2.alloc (.cells #[.slice a2 (be8 p.id).size c2'] 76)) (k := w2.heap.size + 1) (by simp) (.cells #[.pointer (some ⟨w.heap.size, 0, none⟩)] 108)
  have bB := (Boxed.new w2 76 (.slice a2 (be8 p.id).size c2')).alloc (.cells #[.pointer (some ⟨w.heap.size, 0, none⟩)] 108)
  have hs0 := (HO2.out.alloc (.cells #[.slice a2 (be8 p.id).size c2'] 76)).alloc (.cells #[.pointer (some ⟨w.heap.size, 0, none⟩)] 108)
  have h2s := HB2.out.size
  have hwl : w.heap.size < w2.heap.size := blk_lt Q2.out
  have hB0 : Below w.heap.size w ((w2.alloc (.cells #[.slice a2 (be8 p.id).size c2'] 76)).alloc (.cells #[.pointer (some ⟨w.heap.size, 0, none⟩)] 108)) := (HB2.out.alloc h2s _).alloc (by simp; omega) _
  obtain ⟨W0, hW0⟩ : ∃ W0, (w2.alloc (.cells #[.slice a2 (be8 p.id).size c2'] 76)).alloc (.cells #[.pointer (some ⟨w.heap.size, 0, none⟩)] 108) = W0 := ⟨_, rfl⟩
  have hsz : W0.heap.size = w2.heap.size + 2 := by rw [← hW0]; simp
  rw [hW0] at q0 q3 bB hs0 hB0 ⊢
  clear hW0
  refine wpIn_rangeFunc_ownH rfl (by decide) (gf := 74) (lb := #[.pointer (some ⟨w2.heap.size + 1, 0, none⟩)]) rfl trivial (enters_of Tryz.func74 (by kernel_rfl) rfl)
    (nums1_stops (9 - 1) (by decide) w.heap.size (w2.heap.size + 1) W0 q3) KpN.trans (fun W l o o' _ h hc _ => KpN.putObj W l o o' h hc) (Below.refl _ _) (fun _ => rfl)
    (fun pre W => ((∃ v, Boxed W w2.heap.size 76 v ∧ BS W v (encL N (be8 p.id) pre)) ∧ W.heap[w.heap.size]? = some (.cells #[.int .u32 p.id, .int .i64 p.daily, .int .i64 p.monthly, .int .i64 p.over, .int .i64 p.roll, .int .i64 p.base, .slice va p.tiers.length vc] 35 (0, 0))) ∧ Below w.heap.size w W)
    (fun _ _ _ => False)
    (OwnFrom.and (OwnFrom.and (boxBS_own _ _ (fun pre => encL N (be8 p.id) pre) _) (blk_own _ _ _ _)) (ownFrom_below (Nat.le_refl _) (by omega)))
    (fun _ _ _ _ _ hs _ _ => hs)
    ⟨⟨⟨_, bB, hs0⟩, q0⟩, hB0⟩
    (fun x a' _ => a' = { tmps := #[.agg #[.int .u32 p.id, .int .i64 p.daily, .int .i64 p.monthly, .int .i64 p.over, .int .i64 p.roll, .int .i64 p.base, .slice va p.tiers.length vc], .pointer (some ⟨w.heap.size, 0, none⟩), .slice none 0 0, .int .i64 0, .pointer (some ⟨w2.heap.size, 0, none⟩), .pointer (some ⟨w.heap.size, x.val + 1, none⟩), undef, undef, .agg #[.int .u32 p.id, .int .i64 p.daily, .int .i64 p.monthly, .int .i64 p.over, .int .i64 p.roll, .int .i64 p.base, .slice va p.tiers.length vc], .bool true, .bool false, .pointer (some ⟨w.heap.size, 0, none⟩), .int .u32 p.id, .int .u64 p.id, .slice a2 (be8 p.id).size c2', .func (Fn.func 74) #[] #[.pointer (some ⟨w2.heap.size + 1, 0, none⟩)], .pointer (some ⟨w.heap.size, x.val + 1, none⟩), .int .i64 (mostN x), undef, undef, undef, undef, undef, undef, undef, undef, undef, undef, undef, undef, undef, undef, undef, undef, undef, undef, undef, undef, undef, undef, undef, undef, undef, undef], defers := [] })
    (fun _ _ _ _ _ _ hs _ _ => hs)
    ?assign ?body ?done ?stop
  case assign =>
    rintro l pre x W K hI hK
    gi_wp2
    exact hK _ _ (KeepsFrom.refl _ _) (KpN.below (Below.refl _ _)) hI rfl
  case body =>
    rintro l pre x a' W hl0 ⟨r, hr0⟩ ⟨⟨⟨v, hv, hs⟩, h1⟩, hB⟩ rfl hlt
    have hsl := encL_size N pre (be8 p.id)
    obtain ⟨va5, vc5, rfl⟩ := hs.len
    have kc : W.drew.cell? ⟨w2.heap.size, 0, none⟩ = some (.slice va5 (encL N (be8 p.id) pre).size vc5) := hv.cell
    have kn : W.drew.cell? ⟨w.heap.size, x.val + 1, none⟩ = some (.int .i64 (N x)) := by
      show W.cell? _ = _
      rw [blk_cell h1, HN.out]
      have := HCE.out x
      simp only [Pl.cells] at this
      simpa using this
    have HI := Lib.hid (int_w (.slice va5 (encL N (be8 p.id) pre).size vc5) (encL N (be8 p.id) pre) (N x) W.drew hs (by rw [hsl, show (be8 p.id).size = 8 from be_size _ 8]; omega))
    have H1 := Lib.hid h1
    have HB := Lib.hid hB
    have HVV := Lib.hid hv
    have hsW := hB.size
    have hbW : w2.heap.size < W.heap.size := hv.lt
    have hEs := encL_snoc N (be8 p.id) pre x
    obtain ⟨s1, hs1⟩ : ∃ s1, s1 = encL N (be8 p.id) pre := ⟨_, rfl⟩
    rw [← hs1] at kc HI HVV hEs
    have HES := Lib.hid hEs
    clear hs hv h1 hB hsl hs1 hEs
    gi_wp2
    gi_region_with (refine ⟨trivial, ?_⟩; gi_at_call 32; refine (CallsIn.inRound l (callsIn_wide.2 HI.out)).mono ?_; rintro e w5 ⟨v5, rfl, ho, hb⟩
                    obtain ⟨a5, c5', rfl⟩ := ho.size
                    have HO5 := Lib.hid ho.bs
                    have HB5 := Lib.hid hb
                    have bv5 := (Keep.ofBelow hb (fun _ => False)).blk (show W.drew.heap[w2.heap.size]? = _ from HVV.out) (fun h => h)
                    have k5 := blk_cell bv5 0
                    have f5 := blk_frozen bv5 0
                    have BV5 := Lib.hid bv5
                    clear ho hb bv5)
    all_goals
      gi_wp2
      have hbW5 : Below W.heap.size W w5 := ((Below.refl W.heap.size W).drew).trans HB5.out
      have bx5 : Boxed w5 w2.heap.size 76 (.slice va5 s1.size vc5) := BV5.out
      refine ⟨((othersN_below hbW5).trans (KeepsOthers.setCell _ _ _)).from _, (KpN.below hbW5).trans (KpN.boxset bx5 (by decide) _), ⟨⟨_, bx5.set _, ?_⟩, ?_⟩, (HB.out.trans (hbW5.mono hsW)).setCell (p := ⟨w2.heap.size, 0, none⟩) (by simp; omega) _⟩
      · rw [HES.out]
        have hbb := HO5.out.boxset bx5 (.slice a5 (s1.size + (i8 (N x)).size) c5')
        rw [size_append] at hbb
        exact hbb
      · exact ((Keep.ofBelow hbW5 (fun i => i = w2.heap.size)).setCell (p := ⟨w2.heap.size, 0, none⟩) (.inl rfl) _).blk H1.out (fun e => by omega)
  case done =>
    rintro D ys W hD rfl ⟨⟨⟨v, hv, hs⟩, h1⟩, hB⟩ hK
    have hsl := encL_size N NUMS (be8 p.id)
    obtain ⟨va5, vc5, rfl⟩ := hs.len
    obtain ⟨s1, hs1⟩ : ∃ s1, s1 = encL N (be8 p.id) NUMS := ⟨_, rfl⟩
    rw [← hs1] at hs hv hsl
    have hs1l : s1.size = 48 := by rw [hsl, show (be8 p.id).size = 8 from be_size _ 8]; rfl
    have kc := hv.cell
    have d6 := blk_cell h1 6
    have HI := Lib.hid (int_w (.slice va5 s1.size vc5) s1 (p.tiers.length : Int) W hs (by omega))
    have HS1 := Lib.hid hs1
    have HSL := Lib.hid hs1l
    have HB := Lib.hid hB
    have HVV := Lib.hid hv
    have HKD := Lib.hid hK
    have H1 := Lib.hid h1
    clear hs hv h1 hB hsl hs1 hs1l hK HA HCK HU c0 c1 c2 c3 c4 c5 c6
    gi_wp2_with (refine ⟨trivial, ?_⟩; gi_at_call 32; refine (callsIn_wide.2 HI.out).mono ?_; rintro e w5 ⟨v5, rfl, ho, hb⟩
                 obtain ⟨a5, c5', rfl, _, _⟩ := ho.bs.len2 (size_append s1 (i8 (p.tiers.length : Int)))
                 have HO5 := Lib.hid ho.bs
                 have HB5 := Lib.hid hb
                 have bv5 := (Keep.ofBelow hb (fun _ => False)).blk (show W.heap[w2.heap.size]? = _ from HVV.out) (fun h => h)
                 have k5 := blk_cell bv5 0
                 have f5 := blk_frozen bv5 0
                 have BV5 := Lib.hid bv5
                 have n6 := blk_cell (((Keep.ofBelow hb (fun i => i = w2.heap.size)).setCell (p := ⟨w2.heap.size, 0, none⟩) (.inl rfl) (.slice a5 (s1.size + (i8 (p.tiers.length : Int)).size) c5')).blk H1.out (fun e => by omega)) 6
                 clear ho hb bv5)
    have hbW5 : Below W.heap.size W w5 := HB5.out
    have bx5 : Boxed w5 w2.heap.size 76 (.slice va5 s1.size vc5) := BV5.out
    obtain ⟨s2, hs2⟩ : ∃ s2, s2 = s1 ++ i8 (p.tiers.length : Int) := ⟨_, rfl⟩
    obtain ⟨n2, hn2⟩ : ∃ n2, n2 = s1.size + (i8 (p.tiers.length : Int)).size := ⟨_, rfl⟩
    have hn56 : n2 = 56 := by rw [hn2, HSL.out, i8_size]
    rw [← hs2, ← hn2] at HO5
    rw [← hn2] at n6 ⊢
    have hz2 : s2.size = n2 := by rw [hs2, hn2, size_append]
    obtain ⟨W6, hW6⟩ : ∃ W6, W6 = w5.setCell ⟨w2.heap.size, 0, none⟩ (.slice a5 n2 c5') := ⟨_, rfl⟩
    rw [← hW6]
    have bx6 : Boxed W6 w2.heap.size 76 (.slice a5 n2 c5') := by rw [hW6]; exact bx5.set _
    have bs6 : BS W6 (.slice a5 n2 c5') s2 := by rw [hW6]; exact HO5.out.boxset bx5 _
    have hB6 : Below w.heap.size w W6 := by rw [hW6]; exact (HB.out.trans (hbW5.mono HB.out.size)).setCell (p := ⟨w2.heap.size, 0, none⟩) (by simp; omega) _
    have hK6 : W6.heap[D]? = some (.deferred (some [])) := by rw [hW6]; exact ((Keep.ofBelow hbW5 (fun i => i = w2.heap.size)).setCell (p := ⟨w2.heap.size, 0, none⟩) (.inl rfl) _).blk HKD.out (fun e => by omega)
    have HBX6 := Lib.hid (show ∃ v, Boxed W6 w2.heap.size 76 v ∧ BS W6 v (encT s2 (p.tiers.take 0)) from ⟨_, bx6, bs6⟩)
    have HB6 := Lib.hid hB6
    have HK6 := Lib.hid hK6
    have hRR : R = encT s2 p.tiers := by rw [HR.out, hs2, HS1.out, HN.out]; rfl
    have HRR := Lib.hid hRR
    have HS2 := Lib.hid (show s2.size = 56 by rw [hz2, hn56])
    have hDl : w2.heap.size < D := by omega
    obtain ⟨n, hn⟩ : ∃ n, n = p.tiers.length := ⟨_, rfl⟩
    have HNN := Lib.hid hn
    have hn4 : n ≤ 4 := by omega
    rw [← hn]
    clear hs2 hn2 hn56 hz2 hW6 bx6 bs6 hB6 hK6 hRR hn hbW5 bx5 k5 f5 n6 kc d6 HR HI HB HVV HKD H1 hlen
    gi_loopw [31] (fun i wr => ∃ j : Nat, j ≤ n ∧ i = .int .i64 j ∧ Hid (∃ v, Boxed wr w2.heap.size 76 v ∧ BS wr v (encT s2 (p.tiers.take j))) ∧ Hid (wr.heap[D]? = some (.deferred (some []))) ∧ Hid (Below w.heap.size w wr)) (fun i _ => n - (intOf i).toNat)
    case atStart => exact ⟨0, by omega, rfl, HBX6, HK6, HB6⟩
    case round =>
      obtain ⟨j, hj, rfl, HX, HKj, HBj⟩ := hrel
      obtain ⟨v, hv, hs⟩ := HX.out
      have hsz1 := encT_size (p.tiers.take j) s2
      obtain ⟨va6, vc6, rfl⟩ := hs.len
      have hk0 := hv.cell
      have hwj := HBj.out.size
      by_cases hlt : j < n
      · obtain ⟨t, ht⟩ : ∃ t, p.tiers[j]? = some t := ⟨_, List.getElem?_eq_getElem (by rw [← HNN.out]; exact hlt)⟩
        have htk : p.tiers.take (j + 1) = p.tiers.take j ++ [t] := by rw [List.take_add_one, ht]; rfl
        have hee := encT_snoc s2 (p.tiers.take j) t
        rw [← htk] at hee
        obtain ⟨g, off, cap', he, t0, t1⟩ := (HVw.out.below HBj.out).at2 ht
        injection he with he m1 m2
        subst he; subst m2
        clear m1
        have hi1 : ((j : Int) < (n : Int)) := by omega
        have hsj : (p.tiers.take j).length ≤ 4 := by rw [List.length_take]; omega
        have hs56 := HS2.out
        obtain ⟨s3, hs3⟩ : ∃ s3, s3 = encT s2 (p.tiers.take j) := ⟨_, rfl⟩
        rw [← hs3] at hs hv hsz1 hk0 hee
        have h3l : s3.size ≤ 1000 := by omega
        have HEE := Lib.hid hee
        have HSS := Lib.hid hs
        have HVV := Lib.hid hv
        clear hs3 hsz1 hs56 hsj hs hv hee htk ht
        gi_wp2
        obtain ⟨W7, hW7⟩ : ∃ W7, W7 = wr.alloc (.cells #[.int .i64 t.upto, .int .i64 t.price] 103) := ⟨_, rfl⟩
        have hb7 : Below wr.heap.size wr W7 := by rw [hW7]; exact (Below.refl _ _).alloc (Nat.le_refl _) _
        have hz7 : W7.heap[wr.heap.size]? = some (.cells #[.int .i64 t.upto, .int .i64 t.price] 103 (0, 0)) := by rw [hW7]; exact blk_new wr _
        rw [← hW7]
        have bv7 : Boxed W7 w2.heap.size 76 (.slice va6 s3.size vc6) := (Keep.ofBelow hb7 (fun _ => False)).blk (show wr.heap[w2.heap.size]? = _ from HVV.out) (fun h => h)
        have kb : W7.drew.cell? ⟨w2.heap.size, 0, none⟩ = some (.slice va6 s3.size vc6) := bv7.cell
        have kt0 : W7.drew.cell? ⟨wr.heap.size, 0, none⟩ = some (.int .i64 t.upto) := blk_cell hz7 0
        have kt1 : W7.drew.cell? ⟨wr.heap.size, 1, none⟩ = some (.int .i64 t.price) := blk_cell hz7 1
        have HI1 := Lib.hid (int_w (.slice va6 s3.size vc6) s3 t.upto W7.drew (show BS W7.drew _ _ from HSS.out.below hb7.drew) (by omega))
        have HI2 := Lib.hid fun (w8 : World) (v8 : Value) (h : BS w8 v8 (s3 ++ i8 t.upto)) => int_w v8 (s3 ++ i8 t.upto) t.price w8 h (by rw [size_append, i8_size]; omega)
        have HZ7 := Lib.hid (show W7.drew.heap[wr.heap.size]? = _ from hz7)
        have BV7 := Lib.hid (show W7.drew.heap[w2.heap.size]? = _ from bv7)
        have HBW7 := Lib.hid (show Below wr.heap.size wr W7.drew from hb7.drew)
        clear hW7 hb7 hz7 bv7 t0 t1 hk0
        have CC := Lib.hid fun (X : World) (h2 : X.heap[wr.heap.size]? = some (.cells #[.int .i64 t.upto, .int .i64 t.price] 103 (0, 0))) => show X.cell? ⟨wr.heap.size, 0, none⟩ = some (.int .i64 t.upto) ∧ X.cell? ⟨wr.heap.size, 1, none⟩ = some (.int .i64 t.price) from ⟨blk_cell h2 0, blk_cell h2 1⟩
        have hwb : w2.heap.size < wr.heap.size := HVV.out.lt
        clear kt0 kt1
        refine wpIn_wide.2 (wp_strict ?_)
        refine wp_region_held_drew (S := (fun w' => w'.cell? ⟨wr.heap.size, 0, none⟩ = some (.int .i64 t.upto) ∧ w'.cell? ⟨wr.heap.size, 1, none⟩ = some (.int .i64 t.price))) (by kernel_rfl) ?_ (fun hHeld0 => ?_)
        · (try dsimp only)
          first | with_reducible exact CC.out _ HZ10.out | with_reducible exact CC.out _ HZ9.out | with_reducible exact CC.out _ HZ8.out | with_reducible exact CC.out _ HZ7.out
        refine takeN (v := ?_) 1 rfl (by kernel_rfl) (by kernel_rfl) (by kernel_rfl) (fun _ _ _ h => h) (by rfl) ?_ hHeld0 ?_
        rotate_left
        · intro w hSw; (try dsimp only at hSw); go_simp; with_reducible rfl
        try simp only [Act.put, List.setIfInBounds_toArray, List.set_cons_zero, List.set_cons_succ]
        refine takeN (v := ?_) 2 rfl (by kernel_rfl) (by kernel_rfl) (by kernel_rfl) (fun _ _ _ h => h) (by rfl) ?_ hHeld0 ?_
        rotate_left
        · intro w hSw; (try dsimp only at hSw); go_simp; with_reducible rfl
        try simp only [Act.put, List.setIfInBounds_toArray, List.set_cons_zero, List.set_cons_succ]
        refine takeN (v := ?_) 4 rfl (by kernel_rfl) (by kernel_rfl) (by kernel_rfl) (fun _ _ _ h => h) (by rfl) ?_ hHeld0 ?_
        rotate_left
        · intro w hSw; (try dsimp only at hSw); go_simp; with_reducible rfl
        try simp only [Act.put, List.setIfInBounds_toArray, List.set_cons_zero, List.set_cons_succ]
        refine takeN (v := ?_) 5 rfl (by kernel_rfl) (by kernel_rfl) (by kernel_rfl) (fun _ _ _ h => h) (by rfl) ?_ hHeld0 ?_
        rotate_left
        · intro w hSw; (try dsimp only at hSw); go_simp; with_reducible rfl
        try simp only [Act.put, List.setIfInBounds_toArray, List.set_cons_zero, List.set_cons_succ]
        refine wpAnyH_ready (rs := [0]) (by kernel_rfl) (by simp) ?_
        refine readyN rfl (fun K hK => ?_) ?_
        · -- operation 0
          go_simp
          refine hK.out _ _ ?_ (fun hHeld1 => ?_)
          · (try dsimp only)
            first | with_reducible exact CC.out _ HZ10.out | with_reducible exact CC.out _ HZ9.out | with_reducible exact CC.out _ HZ8.out | with_reducible exact CC.out _ HZ7.out
          clear hK K hHeld0
          try simp only [Act.put, List.setIfInBounds_toArray, List.set_cons_zero, List.set_cons_succ]
          refine wpAnyH_ready (rs := [3]) (by kernel_rfl) (by simp) ?_
          refine readyN rfl (fun K hK => ?_) ?_
          · -- operation 3
            go_simp
            first
              | (go_at_call 32; refine HI1.out.mono ?_; rintro e w8 ⟨v8, rfl, ho, hb⟩
                 obtain ⟨a8, c8', rfl, _, _⟩ := ho.bs.len2 (size_append s3 (i8 t.upto))
                 have HO8 := Lib.hid ho.bs
                 have HB8 := Lib.hid hb
                 have HZ8 := Lib.hid ((Keep.ofBelow hb (fun _ => False)).blk HZ7.out (fun h => h))
                 have BV8 := Lib.hid ((Keep.ofBelow hb (fun _ => False)).blk BV7.out (fun h => h))
                 clear ho hb HI1)
              | (go_at_call 32; refine (HI2.out _ _ HO8.out).mono ?_; rintro e w9 ⟨v9, rfl, ho, hb⟩
                 obtain ⟨a9, c9', rfl, _, _⟩ := ho.bs.len2 (show _ = s3.size + (i8 t.upto).size + (i8 t.price).size by rw [size_append, size_append])
                 have HO9 := Lib.hid ho.bs
                 have HB9 := Lib.hid hb
                 have bv9 := (Keep.ofBelow hb (fun _ => False)).blk BV8.out (fun h => h)
                 have HZ9 := Lib.hid ((Keep.ofBelow hb (fun _ => False)).blk HZ8.out (fun h => h))
                 have f9 := blk_frozen bv9 0
                 have BV9 := Lib.hid bv9
                 have k9 := blk_cell bv9 0
                 have HZ10 := Lib.hid (((Keep.refl (fun i => i = w2.heap.size) w9).setCell (p := ⟨w2.heap.size, 0, none⟩) (.inl rfl) (.slice a9 (s3.size + (i8 t.upto).size + (i8 t.price).size) c9')).blk HZ9.out (fun e => by omega))
                 clear ho hb bv9 HI2)
            go_wp2_with fail
            refine hK.out _ _ ?_ (fun hHeld2 => ?_)
            · (try dsimp only)
              first | with_reducible exact CC.out _ HZ10.out | with_reducible exact CC.out _ HZ9.out | with_reducible exact CC.out _ HZ8.out | with_reducible exact CC.out _ HZ7.out
            clear hK K hHeld1
            try simp only [Act.put, List.setIfInBounds_toArray, List.set_cons_zero, List.set_cons_succ]
            refine wpAnyH_ready (rs := [6]) (by kernel_rfl) (by simp) ?_
            refine readyN rfl (fun K hK => ?_) ?_
            · -- operation 6
              go_simp
              first
                | (go_at_call 32; refine HI1.out.mono ?_; rintro e w8 ⟨v8, rfl, ho, hb⟩
                   obtain ⟨a8, c8', rfl, _, _⟩ := ho.bs.len2 (size_append s3 (i8 t.upto))
                   have HO8 := Lib.hid ho.bs
                   have HB8 := Lib.hid hb
                   have HZ8 := Lib.hid ((Keep.ofBelow hb (fun _ => False)).blk HZ7.out (fun h => h))
                   have BV8 := Lib.hid ((Keep.ofBelow hb (fun _ => False)).blk BV7.out (fun h => h))
                   clear ho hb HI1)
                | (go_at_call 32; refine (HI2.out _ _ HO8.out).mono ?_; rintro e w9 ⟨v9, rfl, ho, hb⟩
                   obtain ⟨a9, c9', rfl, _, _⟩ := ho.bs.len2 (show _ = s3.size + (i8 t.upto).size + (i8 t.price).size by rw [size_append, size_append])
                   have HO9 := Lib.hid ho.bs
                   have HB9 := Lib.hid hb
                   have bv9 := (Keep.ofBelow hb (fun _ => False)).blk BV8.out (fun h => h)
                   have HZ9 := Lib.hid ((Keep.ofBelow hb (fun _ => False)).blk HZ8.out (fun h => h))
                   have f9 := blk_frozen bv9 0
                   have BV9 := Lib.hid bv9
                   have k9 := blk_cell bv9 0
                   have HZ10 := Lib.hid (((Keep.refl (fun i => i = w2.heap.size) w9).setCell (p := ⟨w2.heap.size, 0, none⟩) (.inl rfl) (.slice a9 (s3.size + (i8 t.upto).size + (i8 t.price).size) c9')).blk HZ9.out (fun e => by omega))
                   clear ho hb bv9 HI2)
              go_wp2_with fail
              refine hK.out _ _ ?_ (fun hHeld3 => ?_)
              · (try dsimp only)
                first | with_reducible exact CC.out _ HZ10.out | with_reducible exact CC.out _ HZ9.out | with_reducible exact CC.out _ HZ8.out | with_reducible exact CC.out _ HZ7.out
              clear hK K hHeld2
              try simp only [Act.put, List.setIfInBounds_toArray, List.set_cons_zero, List.set_cons_succ]
              refine wpAnyH_ready (rs := [7]) (by kernel_rfl) (by simp) ?_
              refine readyN rfl (fun K hK => ?_) ?_
              · -- operation 7
                go_simp
                refine hK.out _ _ ?_ (fun hHeld4 => ?_)
                · (try dsimp only)
                  first | with_reducible exact CC.out _ HZ10.out | with_reducible exact CC.out _ HZ9.out | with_reducible exact CC.out _ HZ8.out | with_reducible exact CC.out _ HZ7.out
                clear hK K hHeld3
                try simp only [Act.put, List.setIfInBounds_toArray, List.set_cons_zero, List.set_cons_succ]
                refine wpAnyH_done (by kernel_rfl) ?_ _
                dsimp only
                gi_wp2
                have bx9 : Boxed w9 w2.heap.size 76 (.slice va6 s3.size vc6) := BV9.out
                have hb9 : Below wr.heap.size wr w9 := (HBW7.out.trans (HB8.out.mono HBW7.out.size)).trans (HB9.out.mono (Nat.le_trans HBW7.out.size HB8.out.size))
                have hk10 := (Keep.ofBelow hb9 (fun i => i = w2.heap.size)).setCell (p := ⟨w2.heap.size, 0, none⟩) (.inl rfl) (.slice a9 (s3.size + (i8 t.upto).size + (i8 t.price).size) c9')
                have HX' := Lib.hid (show ∃ v, Boxed (w9.setCell ⟨w2.heap.size, 0, none⟩ (.slice a9 (s3.size + (i8 t.upto).size + (i8 t.price).size) c9')) w2.heap.size 76 v ∧ BS (w9.setCell ⟨w2.heap.size, 0, none⟩ (.slice a9 (s3.size + (i8 t.upto).size + (i8 t.price).size) c9')) v (encT s2 (p.tiers.take (j + 1))) from ⟨_, bx9.set _, by rw [HEE.out]; exact HO9.out.boxset bx9 _⟩)
                have HK' := Lib.hid (hk10.blk HKj.out (fun e => by omega))
                have HB' := Lib.hid ((HBj.out.trans (hb9.mono hwj)).setCell (p := ⟨w2.heap.size, 0, none⟩) (by simp; omega) (.slice a9 (s3.size + (i8 t.upto).size + (i8 t.price).size) c9'))
                go_roundw
                case rel => exact ⟨j + 1, by omega, by simp, HX', HK', HB'⟩
                case measure => simp [intOf]; omega
              exact AllReadyH.nil
            exact AllReadyH.nil
          exact AllReadyH.nil
        exact AllReadyH.nil
      · obtain rfl : j = n := by omega
        have hfull : p.tiers.take j = p.tiers := by rw [HNN.out]; exact List.take_length
        rw [hfull, ← HRR.out] at hs hk0
        have HSF := Lib.hid hs
        clear hfull hs hv hsz1 HX
        gi_wp2
        refine ⟨by simp, .inl ⟨_, _, rfl, run_takeDeferred HKj.out, ?_⟩⟩
        refine ⟨_, (by simp [results, Tryz.results27, go_sem]; rfl), ?_⟩
        refine ⟨_, rfl, HSF.out.keep (keep_row (grownBy_putObj' _ D (Obj.deferred none))) (fun b o x hc e => ?_), HBj.out.trans (belowK_b (w := w) (Nat.le_refl _) _ D _ _ (by omega) HKj.out rfl rfl)⟩
        injection e with e
        subst e
        rw [World.cell?, HKj.out] at hc
        simp at hc
  case stop =>
    rintro D c pre W _ _ h _
    exact h.elim
end Go.Proofs.YtidppalhjknlfaaGreatDoor
namespace Go.Proofs.YtidppalhjknlfaaGreatDoor
open Go.RowKit
set_option linter.unusedVariables false
set_option linter.unusedSimpArgs false
/-- a segment: from a day on, a plan -/
structure Sg where
  day : Int
  plan : Int
  deriving DecidableEq
def isDate (d : Int) : Bool := decide (-719162 ≤ d ∧ d ≤ 2932896)
theorem isDate_iff {d : Int} : isDate d = true ↔ -719162 ≤ d ∧ d ≤ 2932896 := by unfold isDate; exact decide_eq_true_iff
structure Sg.Ok (g : Sg) : Prop where
  day : -719162 ≤ g.day ∧ g.day ≤ 2932896
  plan : 1 ≤ g.plan ∧ g.plan ≤ 4294967295
def Sg.cells (g : Sg) : List Value := [.int .i64 g.day, .int .u32 g.plan]
def Sg.val (g : Sg) : Value := .agg #[.int .i64 g.day, .int .u32 g.plan]
def shS : Sh Sg := ⟨2, Sg.cells, fun _ => rfl, by decide, fun x u hu => by
  simp only [Sg.cells, List.mem_cons, List.not_mem_nil, or_false] at hu
  rcases hu with rfl | rfl <;> rfl⟩
def nk (i : Int) : ByteArray := keyS 110 [i]
def tk (t : Int) : ByteArray := keyS 116 [t]
def sp (t : Int) : ByteArray := keyS 115 [t]
def sk (t d : Int) : ByteArray := keyS 115 [t, d]
def Sg.up (g : Sg) : Int := g.day + 4294967296
def Sg.key (t : Int) (g : Sg) : ByteArray := sk t g.up
theorem key1_list (k t : Int) : (keyS k [t]).data.toList = (bOne k).data.toList ++ (be8 t).data.toList := by
  rw [show keyS k [t] = keyS k [] ++ be8 t from keyS_snoc k [] t, append_list]; rfl
theorem key2_list (k t i : Int) : (keyS k [t, i]).data.toList = (bOne k).data.toList ++ ((be8 t).data.toList ++ (be8 i).data.toList) := by
  rw [show keyS k [t, i] = keyS k [t] ++ be8 i from keyS_snoc k [t] i, append_list, key1_list, List.append_assoc]
theorem nk_list (t : Int) : (nk t).data.toList = [110] ++ (be8 t).data.toList := key1_list 110 t
theorem tk_list (t : Int) : (tk t).data.toList = [116] ++ (be8 t).data.toList := key1_list 116 t
theorem sp_list (t : Int) : (sp t).data.toList = [115] ++ (be8 t).data.toList := key1_list 115 t
theorem sk_list (t d : Int) : (sk t d).data.toList = [115] ++ ((be8 t).data.toList ++ (be8 d).data.toList) := key2_list 115 t d
theorem nk_size (t : Int) : (nk t).size = 9 := keyS_size _ _
theorem tk_size (t : Int) : (tk t).size = 9 := keyS_size _ _
theorem sp_size (t : Int) : (sp t).size = 9 := keyS_size _ _
theorem sk_size (t d : Int) : (sk t d).size = 17 := keyS_size _ _
def U64 (n : Int) : Prop := 0 ≤ n ∧ n ≤ 18446744073709551615
theorem be8_injU {x y : Int} (hx : U64 x) (hy : U64 y) (h : (be8 x).data.toList = (be8 y).data.toList) : x = y := by
  have vx := valN_be8 x hx.1 hx.2
  have vy := valN_be8 y hy.1 hy.2
  rw [h] at vx; omega
theorem U32.u64 {x : Int} (h : U32 x) : U64 x := ⟨h.1, by have := h.2; omega⟩
theorem Sg.Ok.up {g : Sg} (h : g.Ok) : U64 g.up := by have := h.day; unfold U64 Sg.up; omega
theorem nk_inj {a b : Int} (ha : U32 a) (hb : U32 b) (h : nk a = nk b) : a = b := by
  have e : (nk a).data.toList = (nk b).data.toList := by rw [h]
  rw [nk_list, nk_list, List.append_cancel_left_eq] at e
  exact be8_inj ha hb e
theorem tk_inj {a b : Int} (ha : U32 a) (hb : U32 b) (h : tk a = tk b) : a = b := by
  have e : (tk a).data.toList = (tk b).data.toList := by rw [h]
  rw [tk_list, tk_list, List.append_cancel_left_eq] at e
  exact be8_inj ha hb e
theorem sk_inj {t i t' i' : Int} (ht : U32 t) (hi : U64 i) (ht' : U32 t') (hi' : U64 i') (h : sk t i = sk t' i') : t = t' ∧ i = i' := by
  have e : (sk t i).data.toList = (sk t' i').data.toList := by rw [h]
  rw [sk_list, sk_list, List.append_cancel_left_eq] at e
  have := List.append_inj e (by rw [be8_len, be8_len])
  exact ⟨be8_inj ht ht' this.1, be8_injU hi hi' this.2⟩
theorem nk_tk {a b : Int} : nk a ≠ tk b := fun h => by
  have e : (nk a).data.toList = (tk b).data.toList := by rw [h]
  rw [nk_list, tk_list] at e
  injection e with e _
  cases e
theorem nk_sk {a b c : Int} : nk a ≠ sk b c := fun h => by
  have := congrArg ByteArray.size h
  rw [nk_size, sk_size] at this; omega
theorem tk_sk {a b c : Int} : tk a ≠ sk b c := fun h => by
  have := congrArg ByteArray.size h
  rw [tk_size, sk_size] at this; omega
theorem pre_sk (t i : Int) : pre (sp t) (sk t i) = true := by
  rw [show sk t i = sp t ++ be8 i from keyS_snoc 115 [t] i]; exact pre_append _ _
theorem pre_sk_inj {t t' i : Int} (ht : U32 t) (ht' : U32 t') (h : pre (sp t) (sk t' i) = true) : t = t' := by
  unfold pre at h
  rw [List.isPrefixOf_iff_prefix, sp_list, sk_list, List.prefix_append_right_inj] at h
  have h3 : (be8 t').data.toList <+: (be8 t').data.toList ++ (be8 i).data.toList := List.prefix_append _ _
  have h4 := List.prefix_of_prefix_length_le h h3 (by rw [be8_len, be8_len]; omega)
  exact be8_inj ht ht' (h4.eq_of_length (by rw [be8_len, be8_len]))
theorem pre_nk (t t' : Int) : pre (sp t) (nk t') = false := by
  unfold pre
  rw [sp_list, nk_list]
  rfl
theorem pre_tk (t t' : Int) : pre (sp t) (tk t') = false := by
  unfold pre
  rw [sp_list, tk_list]
  rfl
theorem sk_lt {t i j : Int} (hi : U64 i) (hj : U64 j) (h : i < j) : slt (sk t i) (sk t j) = true := by
  unfold slt
  rw [toList_data, toList_data, sk_list, sk_list, bl_append _ _ _ _ rfl, bl_irrefl, Bool.false_or, bl_append _ _ _ _ rfl, bl_irrefl, Bool.false_or, bl_val _ _ (by rw [be8_len, be8_len])]
  have vx := valN_be8 i hi.1 hi.2
  have vy := valN_be8 j hj.1 hj.2
  simp
  omega
/-! ### one tenant's segments -/
structure SS (now : AL) (t : Int) (L : List Sg) : Prop where
  at_ : ∀ g ∈ L, (g.key t, be8 g.plan) ∈ now
  all : ∀ q ∈ now, pre (sp t) q.1 = true → ∃ g ∈ L, q = (g.key t, be8 g.plan)
  ok : ∀ g ∈ L, g.Ok
  up : L.Pairwise fun a b => a.day < b.day
theorem SS.nil (t : Int) : SS [] t [] := ⟨by simp, by simp, by simp, List.Pairwise.nil⟩
def sprs (t : Int) (L : List Sg) : AL := L.map fun g => (g.key t, be8 g.plan)
theorem SS.scan {now : AL} {t : Int} {L : List Sg} (hn : AL.ND now) (h : SS now t L) : AL.scan (sp t) now = sprs t L := by
  have hs : (sprs t L).Pairwise plt := by
    unfold sprs
    rw [List.pairwise_map]
    refine List.Pairwise.imp_of_mem (fun {a b} ha hb hab => ?_) h.up
    exact sk_lt (h.ok a ha).up (h.ok b hb).up (by unfold Sg.up; omega)
  have hs2 : (AL.scan (sp t) now).Pairwise plt := (srt_strict hn).sublist List.filter_sublist
  refine eq_of_perm_strict plt plt_asymm _ _ ?_ hs2 hs
  refine (List.perm_ext_iff_of_nodup (strict_nodup hs2) (strict_nodup hs)).2 fun q => ?_
  unfold AL.scan sprs
  rw [List.mem_filter, (srt_perm now).mem_iff, List.mem_map]
  constructor
  · rintro ⟨h1, h2⟩
    obtain ⟨l, hl, rfl⟩ := h.all q h1 h2
    exact ⟨l, hl, rfl⟩
  · rintro ⟨l, hl, rfl⟩
    exact ⟨h.at_ l hl, pre_sk _ _⟩
/-- a pair of another kind is put -/
theorem SS.put_no {now : AL} {t : Int} {L : List Sg} (hn : AL.ND now) (h : SS now t L) {k v : ByteArray} (hk : pre (sp t) k = false) : SS (AL.put k v now) t L := by
  refine ⟨fun g hg => (mem_put hn).2 (.inr ⟨h.at_ g hg, fun e => ?_⟩), fun q hq hp => ?_, h.ok, h.up⟩
  · have := pre_sk t g.up
    rw [show sk t g.up = k from e, hk] at this; cases this
  · rcases (mem_put hn).1 hq with rfl | ⟨hq, _⟩
    · rw [hk] at hp; cases hp
    · exact h.all q hq hp
theorem pre_other {t u i : Int} (ht : U32 t) (hu : U32 u) (hne : u ≠ t) : pre (sp t) (sk u i) = false := by
  cases hh : pre (sp t) (sk u i)
  · rfl
  · exact absurd (pre_sk_inj ht hu hh).symm hne
/-- what a change leaves -/
def chgL (L : List Sg) (g : Sg) : List Sg := L.filter (fun x => decide (x.day ≠ g.day)) ++ [g]
theorem SS.put {now : AL} {t : Int} {L : List Sg} (hn : AL.ND now) (h : SS now t L) (ht : U32 t) (g : Sg) (hg : g.Ok) (hl : ∀ x ∈ L, x.day ≤ g.day) : SS (AL.put (g.key t) (be8 g.plan) now) t (chgL L g) := by
  unfold chgL
  refine ⟨fun x hx => ?_, fun q hq hp => ?_, fun x hx => ?_, ?_⟩
  · rcases List.mem_append.1 hx with hx | hx
    · obtain ⟨h1, h2⟩ := List.mem_filter.1 hx
      refine (mem_put hn).2 (.inr ⟨h.at_ x h1, fun e => ?_⟩)
      have := (sk_inj ht (h.ok x h1).up ht hg.up e).2
      unfold Sg.up at this
      exact (of_decide_eq_true h2) (by omega)
    · obtain rfl := List.mem_singleton.1 hx
      exact (mem_put hn).2 (.inl rfl)
  · rcases (mem_put hn).1 hq with rfl | ⟨hq, hne⟩
    · exact ⟨g, by simp, rfl⟩
    · obtain ⟨x, hx, rfl⟩ := h.all q hq hp
      refine ⟨x, List.mem_append.2 (.inl (List.mem_filter.2 ⟨hx, decide_eq_true fun e => hne ?_⟩)), rfl⟩
      show sk t x.up = sk t g.up
      unfold Sg.up; rw [e]
  · rcases List.mem_append.1 hx with hx | hx
    · exact h.ok x (List.mem_filter.1 hx).1
    · obtain rfl := List.mem_singleton.1 hx; exact hg
  · refine List.pairwise_append.2 ⟨h.up.sublist List.filter_sublist, List.pairwise_singleton _ _, fun a ha b hb => ?_⟩
    obtain rfl := List.mem_singleton.1 hb
    obtain ⟨h1, h2⟩ := List.mem_filter.1 ha
    have := hl a h1
    have := of_decide_eq_true h2
    omega
/-! ### plans and tenants -/
structure Tn where
  id : Int
  shift : Int
  day : Int
  L : List Sg
structure Tn.Ok (T : Tn) : Prop where
  id : 1 ≤ T.id ∧ T.id ≤ 4294967295
  shift : shiftB T.shift = true
  day : -719162 ≤ T.day ∧ T.day ≤ 2932896
  head : ∃ p r, T.L = ⟨T.day, p⟩ :: r
  seg : ∀ g ∈ T.L, g.Ok
  up : T.L.Pairwise fun a b => a.day < b.day
def pfind (ps : List Pl) (i : Int) : Option Pl := ps.find? fun p => decide (p.id = i)
def tfind (ts : List Tn) (t : Int) : Option Tn := ts.find? fun T => decide (T.id = t)
def tset (ts : List Tn) (t : Int) (L : List Sg) : List Tn := ts.map fun T => if T.id = t then { T with L := L } else T
def tsegs (ts : List Tn) (t : Int) : List Sg := ((tfind ts t).map Tn.L).getD []
theorem pfind_some {ps : List Pl} {i : Int} {p : Pl} (h : pfind ps i = some p) : p ∈ ps ∧ p.id = i := ⟨List.mem_of_find?_eq_some h, by have := List.find?_some (show List.find? _ _ = _ from h); simpa using this⟩
theorem tfind_some {ts : List Tn} {i : Int} {p : Tn} (h : tfind ts i = some p) : p ∈ ts ∧ p.id = i := ⟨List.mem_of_find?_eq_some h, by have := List.find?_some (show List.find? _ _ = _ from h); simpa using this⟩
theorem pfind_snoc (ps : List Pl) (p : Pl) (i : Int) : pfind (ps ++ [p]) i = (pfind ps i).or (if p.id = i then some p else none) := by
  unfold pfind
  rw [List.find?_append]
  by_cases h : p.id = i
  · simp [h]
  · simp [h]
theorem tfind_snoc (ts : List Tn) (p : Tn) (i : Int) : tfind (ts ++ [p]) i = (tfind ts i).or (if p.id = i then some p else none) := by
  unfold tfind
  rw [List.find?_append]
  by_cases h : p.id = i
  · simp [h]
  · simp [h]
theorem tfind_set (t : Int) (L : List Sg) (i : Int) : ∀ ts : List Tn, tfind (tset ts t L) i = if i = t then (tfind ts i).map fun T => { T with L := L } else tfind ts i
  | [] => by simp [tfind, tset]
  | T :: ts => by
    have ih := tfind_set t L i ts
    unfold tfind tset at ih ⊢
    rw [List.map_cons, List.find?_cons, List.find?_cons]
    by_cases hT : T.id = t
    · rw [if_pos hT]
      by_cases hi : T.id = i
      · have e1 : decide (({ T with L := L } : Tn).id = i) = true := decide_eq_true hi
        have e2 : decide (T.id = i) = true := decide_eq_true hi
        rw [e1, if_pos (by omega)]; rfl
      · have e1 : decide (({ T with L := L } : Tn).id = i) = false := decide_eq_false hi
        have e2 : decide (T.id = i) = false := decide_eq_false hi
        rw [e1]; exact ih
    · rw [if_neg hT]
      by_cases hi : T.id = i
      · have e2 : decide (T.id = i) = true := decide_eq_true hi
        rw [e2, if_neg (by omega)]
      · have e2 : decide (T.id = i) = false := decide_eq_false hi
        rw [e2]; exact ih
structure CS (now : AL) (ps : List Pl) (ts : List Tn) : Prop where
  plan : ∀ i, U32 i → AL.get (nk i) now = (pfind ps i).map Pl.enc
  ten : ∀ t, U32 t → AL.get (tk t) now = (tfind ts t).map fun T => i8 T.shift ++ i8 T.day
  seg : ∀ t, U32 t → SS now t (tsegs ts t)
  pok : ∀ p ∈ ps, p.Ok ∧ plchk p = true
  tok : ∀ T ∈ ts, T.Ok
  self : ∀ T ∈ ts, tfind ts T.id = some T
theorem CS.nil : CS [] [] [] := ⟨fun _ _ => rfl, fun _ _ => rfl, fun t _ => SS.nil t, by simp, by simp, by simp⟩
theorem Pl.pos {p : Pl} (h : plchk p = true) : 0 < p.id := by
  unfold plchk at h
  simp only [Bool.and_eq_true, decide_eq_true_eq] at h
  exact h.2.1
theorem CS.define {now : AL} {ps : List Pl} {ts : List Tn} (hn : AL.ND now) (h : CS now ps ts) (p : Pl) (hp : p.Ok) (hc : plchk p = true) (hf : pfind ps p.id = none) : CS (AL.put (nk p.id) p.enc now) (ps ++ [p]) ts := by
  have hid : U32 p.id := hp.id
  refine ⟨fun i hi => ?_, fun t ht => ?_, fun t ht => (h.seg t ht).put_no hn (pre_nk _ _), fun q hq => ?_, h.tok, h.self⟩
  · rw [get_put hn, pfind_snoc]
    by_cases e : i = p.id
    · subst e
      rw [if_pos rfl, hf, if_pos rfl]; rfl
    · rw [if_neg (fun x => e (nk_inj hi hid x)), if_neg (fun x => e x.symm), h.plan i hi, Option.or_none]
  · rw [get_put hn, if_neg (fun x => nk_tk x.symm), h.ten t ht]
  · rcases List.mem_append.1 hq with hq | hq
    · exact h.pok q hq
    · obtain rfl := List.mem_singleton.1 hq; exact ⟨hp, hc⟩
theorem CS.opened {now : AL} {ps : List Pl} {ts : List Tn} (hn : AL.ND now) (h : CS now ps ts) (t s i d : Int) (ht : 1 ≤ t ∧ t ≤ 4294967295) (hs : shiftB s = true) (hi : 1 ≤ i ∧ i ≤ 4294967295) (hd : -719162 ≤ d ∧ d ≤ 2932896) (hf : tfind ts t = none) :
    CS (AL.put ((⟨d, i⟩ : Sg).key t) (be8 i) (AL.put (tk t) (i8 s ++ i8 d) now)) ps (ts ++ [⟨t, s, d, [⟨d, i⟩]⟩]) := by
  have hn1 : AL.ND (AL.put (tk t) (i8 s ++ i8 d) now) := nd_put hn
  have hu : U32 t := ⟨by omega, ht.2⟩
  have hg : (⟨d, i⟩ : Sg).Ok := ⟨hd, hi⟩
  have hts : ∀ u, tsegs (ts ++ [⟨t, s, d, [⟨d, i⟩]⟩]) u = if u = t then [⟨d, i⟩] else tsegs ts u := fun u => by
    unfold tsegs
    rw [tfind_snoc]
    by_cases e : u = t
    · subst e; rw [hf, if_pos rfl, if_pos rfl]; rfl
    · rw [if_neg (fun x => e x.symm), if_neg e, Option.or_none]
  refine ⟨fun j hj => ?_, fun u hu' => ?_, fun u hu' => ?_, h.pok, fun T hT => ?_, fun T hT => ?_⟩
  · rw [get_put hn1, if_neg (show nk j ≠ Sg.key t ⟨d, i⟩ from nk_sk), get_put hn, if_neg nk_tk, h.plan j hj]
  · rw [get_put hn1, if_neg (show tk u ≠ Sg.key t ⟨d, i⟩ from tk_sk), get_put hn, tfind_snoc]
    by_cases e : u = t
    · subst e; rw [if_pos rfl, hf, if_pos rfl]; rfl
    · rw [if_neg (fun x => e (tk_inj hu' hu x)), if_neg (fun x => e x.symm), Option.or_none, h.ten u hu']
  · rw [hts]
    have h1 := (h.seg u hu').put_no (v := i8 s ++ i8 d) hn (pre_tk u t)
    by_cases e : u = t
    · subst e
      rw [if_pos rfl]
      have h0 : tsegs ts u = [] := by unfold tsegs; rw [hf]; rfl
      rw [h0] at h1
      exact h1.put hn1 hu' ⟨d, i⟩ hg (by simp)
    · rw [if_neg e]
      exact h1.put_no hn1 (pre_other hu' hu (fun x => e x.symm))
  · rcases List.mem_append.1 hT with hT | hT
    · exact h.tok T hT
    · obtain rfl := List.mem_singleton.1 hT
      exact ⟨ht, hs, hd, ⟨i, [], rfl⟩, fun g hg' => by obtain rfl := List.mem_singleton.1 hg'; exact hg, List.pairwise_singleton _ _⟩
  · rw [tfind_snoc]
    rcases List.mem_append.1 hT with hT | hT
    · rw [h.self T hT]; rfl
    · obtain rfl := List.mem_singleton.1 hT
      show (tfind ts t).or _ = _
      rw [hf, if_pos rfl]; rfl
theorem chgL_head {L : List Sg} {d p : Int} {r : List Sg} (hL : L = ⟨d, p⟩ :: r) (hup : L.Pairwise fun a b => a.day < b.day) (g : Sg) (hl : ∀ x ∈ L, x.day ≤ g.day) : ∃ p' r', chgL L g = ⟨d, p'⟩ :: r' := by
  subst hL
  unfold chgL
  by_cases e : d = g.day
  · have hr : r = [] := by
      cases r with
      | nil => rfl
      | cons y r =>
        have h1 := (List.pairwise_cons.1 hup).1 y (by simp)
        have h2 := hl y (by simp)
        dsimp only at h1; omega
    subst hr
    refine ⟨g.plan, [], ?_⟩
    rw [List.filter_cons_of_neg (by simp [e]), List.filter_nil, List.nil_append, e]
  · exact ⟨p, r.filter (fun x => decide (x.day ≠ g.day)) ++ [g], by rw [List.filter_cons_of_pos (by simp [e]), List.cons_append]⟩
theorem CS.changed {now : AL} {ps : List Pl} {ts : List Tn} (hn : AL.ND now) (h : CS now ps ts) (t i d : Int) (T : Tn) (hT : tfind ts t = some T) (hi : 1 ≤ i ∧ i ≤ 4294967295) (hd : -719162 ≤ d ∧ d ≤ 2932896) (hl : ∀ x ∈ T.L, x.day ≤ d) :
    CS (AL.put ((⟨d, i⟩ : Sg).key t) (be8 i) now) ps (tset ts t (chgL T.L ⟨d, i⟩)) := by
  obtain ⟨hm, hid⟩ := tfind_some hT
  have hok := h.tok T hm
  have hu : U32 t := ⟨by have := hok.id; omega, by have := hok.id; omega⟩
  have hg : (⟨d, i⟩ : Sg).Ok := ⟨hd, hi⟩
  have hs : tsegs ts t = T.L := by unfold tsegs; rw [hT]; rfl
  refine ⟨fun j hj => ?_, fun u hu' => ?_, fun u hu' => ?_, h.pok, fun X hX => ?_, fun X hX => ?_⟩
  · rw [get_put hn, if_neg (show nk j ≠ Sg.key t ⟨d, i⟩ from nk_sk), h.plan j hj]
  · rw [get_put hn, if_neg (show tk u ≠ Sg.key t ⟨d, i⟩ from tk_sk), h.ten u hu', tfind_set]
    split
    · rw [Option.map_map]; rfl
    · rfl
  · have hts : tsegs (tset ts t (chgL T.L ⟨d, i⟩)) u = if u = t then chgL T.L ⟨d, i⟩ else tsegs ts u := by
      unfold tsegs
      rw [tfind_set]
      by_cases e : u = t
      · subst e; rw [if_pos rfl, if_pos rfl, hT]; rfl
      · rw [if_neg e, if_neg e]
    rw [hts]
    by_cases e : u = t
    · subst e
      rw [if_pos rfl, ← hs]
      exact (h.seg u hu').put hn hu' ⟨d, i⟩ hg (by rw [hs]; exact hl)
    · rw [if_neg e]
      exact (h.seg u hu').put_no hn (pre_other hu' hu (fun x => e x.symm))
  · obtain ⟨Y, hY, rfl⟩ := List.mem_map.1 hX
    have hy := h.tok Y hY
    by_cases e : Y.id = t
    · rw [if_pos e]
      obtain ⟨p, r, hp⟩ := hok.head
      have hSS : SS now t T.L := hs ▸ h.seg t hu
      have hS2 := hSS.put hn hu ⟨d, i⟩ hg hl
      obtain ⟨p', r', hp'⟩ := chgL_head hp hok.up ⟨d, i⟩ hl
      have hYT : Y = T := by
        have := h.self Y hY
        rw [e, hT] at this
        exact (Option.some.inj this).symm
      subst hYT
      exact ⟨hok.id, hok.shift, hok.day, ⟨p', r', hp'⟩, hS2.ok, hS2.up⟩
    · rw [if_neg e]; exact hy
  · obtain ⟨Y, hY, rfl⟩ := List.mem_map.1 hX
    have hs' := h.self Y hY
    have hid' : (if Y.id = t then { Y with L := chgL T.L ⟨d, i⟩ } else Y).id = Y.id := by split <;> rfl
    rw [hid', tfind_set]
    by_cases e : Y.id = t
    · rw [if_pos e, if_pos e, hs']; rfl
    · rw [if_neg e, if_neg e, hs']
/-! ### months, and what is asked of segments -/
theorem in_ex (d : Int) (h0 : -719162 ≤ d) (h1 : d ≤ 2932896) : ∃ M, 12 ≤ M ∧ M < 120000 ∧ Cal.In M d := by
  have step : ∀ k : Nat, ∀ M : Int, 12 ≤ M → M + k = 120000 → Cal.first M ≤ d → ∃ M, 12 ≤ M ∧ M < 120000 ∧ Cal.In M d := by
    intro k
    induction k with
    | zero =>
      intro M _ h h2
      have : M = 120000 := by omega
      rw [this, Cal.first_end] at h2; omega
    | succ k ih =>
      intro M hM h h2
      by_cases hd : d < Cal.first (M + 1)
      · exact ⟨M, hM, by omega, h2, hd⟩
      · exact ih (M + 1) (by omega) (by omega) (by omega)
  exact step 119988 12 (by omega) (by omega) (by rw [Cal.first_12]; exact h0)
/-- a day's month -/
def monGo : Nat → Int → Int
  | 0, _ => 0
  | n + 1, d => if Cal.first ((n + 1 : Nat) : Int) ≤ d then ((n + 1 : Nat) : Int) else monGo n d
def mon (d : Int) : Int := monGo 119999 d
theorem monGo_eq {M d : Int} (h : Cal.In M d) (h0 : 0 < M) : ∀ n : Nat, M ≤ n → monGo n d = M
  | 0, hn => by omega
  | n + 1, hn => by
    unfold monGo
    by_cases hd : Cal.first ((n + 1 : Nat) : Int) ≤ d
    · rw [if_pos hd]
      have := Cal.In_ge h hd
      omega
    · rw [if_neg hd]
      have : M ≠ ((n + 1 : Nat) : Int) := fun e => hd (e ▸ h.1)
      exact monGo_eq h h0 n (by omega)
theorem mon_eq {M d : Int} (h : Cal.In M d) (h1 : 12 ≤ M) (h2 : M < 120000) : mon d = M := monGo_eq h (by omega) 119999 (by omega)
theorem mon_in {d : Int} (h : -719162 ≤ d ∧ d ≤ 2932896) : Cal.In (mon d) d ∧ 12 ≤ mon d ∧ mon d < 120000 := by
  obtain ⟨M, h1, h2, hM⟩ := in_ex d h.1 h.2
  rw [mon_eq hM h1 h2]
  exact ⟨hM, h1, h2⟩
/-- segments that begin in a day's month, but on that day -/
def manyL (L : List Sg) (d : Int) : List Sg := L.filter fun x => decide (x.day ≠ d ∧ mon x.day = mon d)
theorem manyL_snoc (L : List Sg) (d : Int) (x : Sg) : manyL (L ++ [x]) d = manyL L d ++ (if x.day ≠ d ∧ mon x.day = mon d then [x] else []) := by
  unfold manyL
  rw [List.filter_append]
  by_cases h : x.day ≠ d ∧ mon x.day = mon d
  · rw [if_pos h, List.filter_cons_of_pos (by simpa using h)]; rfl
  · rw [if_neg h, List.filter_cons_of_neg (by simpa using h)]; rfl
/-- segments that begin no later than a day -/
def upto (L : List Sg) (d : Int) : List Sg := L.takeWhile fun g => decide (g.day ≤ d)
theorem upto_at (d : Int) : ∀ (L : List Sg) (j : Nat) (x : Sg), (∀ (i : Nat) y, i < j → L[i]? = some y → y.day ≤ d) → L[j]? = some x → d < x.day → upto L d = L.take j
  | [], j, x, _, h, _ => by simp at h
  | a :: L, 0, x, _, h, hd => by
    simp at h; subst h
    unfold upto
    rw [List.takeWhile_cons_of_neg (by simp; omega)]; rfl
  | a :: L, j + 1, x, hno, h, hd => by
    have h0 := hno 0 a (by omega) rfl
    have ih := upto_at d L j x (fun i y hi hy => hno (i + 1) y (by omega) (by simpa using hy)) (by simpa using h) hd
    unfold upto at ih ⊢
    rw [List.takeWhile_cons_of_pos (by simp; omega), ih]; rfl
theorem upto_all (d : Int) : ∀ (L : List Sg), (∀ (i : Nat) y, L[i]? = some y → y.day ≤ d) → upto L d = L
  | [], _ => rfl
  | a :: L, hno => by
    have h0 := hno 0 a rfl
    have ih := upto_all d L (fun i y hy => hno (i + 1) y (by simpa using hy))
    unfold upto at ih ⊢
    rw [List.takeWhile_cons_of_pos (by simp; omega), ih]
theorem upto_pre (L : List Sg) (d : Int) : upto L d <+: L := List.takeWhile_prefix _
theorem upto_take (L : List Sg) (d : Int) : upto L d = L.take (upto L d).length := (List.prefix_iff_eq_take.1 (upto_pre L d))
theorem upto_len (L : List Sg) (d : Int) : (upto L d).length ≤ L.length := (upto_pre L d).length_le
theorem upto_get (L : List Sg) (d : Int) (i : Nat) (h : i < (upto L d).length) : L[i]? = (upto L d)[i]? := by
  conv => rhs; rw [upto_take]
  rw [List.getElem?_take, if_pos h]
end Go.Proofs.YtidppalhjknlfaaGreatDoor
