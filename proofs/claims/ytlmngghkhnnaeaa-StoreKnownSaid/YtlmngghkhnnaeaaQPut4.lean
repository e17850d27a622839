/- frame.Put. -/
import Derived.Test.YtlmngghkhnnaeaaQSec
import Derived.Test.YtlmngghkhnnaeaaQApb
import Derived.Test.YtlmngghkhnnaeaaQFr
namespace Go.Proofs.Ytlmngghkhnnaeaa
open Go.RowKit Go.Shelf
set_option maxRecDepth 100000
set_option maxHeartbeats 1000000
set_option linter.unusedVariables false
set_option linter.unusedSimpArgs false
attribute [local go_sem] Oper.semAt_some
theorem wp_strict {P : Program} {c : Code} {Q : Exit → Act → World → Prop} {a : Act} {w : World} (h : Code.wp P c (fun e a w => match e with | .normal => Q .normal a w | _ => False) a w) : Code.wp P c Q a w :=
  wp_mono h (fun e a w he => by cases e <;> first | exact he | exact he.elim)
theorem wp_gen' {P : Program} {c : Code} {Q : Exit → Act → World → Prop} {a : Act} {w : World} (R : World → Prop) (h0 : R w) (h : ∀ W, R W → Code.wp P c Q a W) : Code.wp P c Q a w := h w h0
theorem wpIn_gen {F : Fence} {n : Nat} {P : Program} {c : Code} {Q : Exit → Act → World → Prop} {a : Act} {w : World} (R : World → Prop) (h0 : R w) (h : ∀ W, R W → c.wpIn F n P Q a W) : c.wpIn F n P Q a w := h w h0
theorem slice_from (g o n cap lo : Nat) (z : Int) (hz : z = lo) (h1 : lo < cap) (h2 : lo ≤ n) (h3 : n ≤ cap) (hm : cap ≤ maxLen) (W : World) : (Instr.slice 28 (.slice (some ⟨g, o, none⟩) n cap) (some (.int .i64 z)) none none).run Try.prog W = .ok (.slice (some ⟨g, o + lo, none⟩) (n - lo) (cap - lo)) W := by
  subst hz
  rw [run_slice_l (P := Try.prog) W 28 (some ⟨g, o, none⟩) n cap elemB .i64 (lo : Int) (by omega) (by omega), so1]
  simp only [Result.andThen, sliced, Int.toNat_natCast]
  rw [if_neg (by omega), Option.map_some, Nat.mul_one, Go.WideShapes.add_plain]
theorem slice_part (g o n cap lo hi : Nat) (z z' : Int) (hz : z = lo) (hz' : z' = hi) (h1 : lo < cap) (h2 : lo ≤ hi) (h3 : hi ≤ cap) (hm : cap ≤ maxLen) (W : World) : (Instr.slice 28 (.slice (some ⟨g, o, none⟩) n cap) (some (.int .i64 z)) (some (.int .i64 z')) none).run Try.prog W = .ok (.slice (some ⟨g, o + lo, none⟩) (hi - lo) (cap - lo)) W := by
  subst hz; subst hz'
  rw [run_slice_lh (P := Try.prog) W 28 (some ⟨g, o, none⟩) n cap elemB .i64 .i64 _ _ (by omega) (by omega) (by omega), so1]
  simp only [Result.andThen, sliced, Int.toNat_natCast]
  rw [if_neg (by omega), Option.map_some, Nat.mul_one, Go.WideShapes.add_plain]
theorem copy_n (W : World) (g o dLen dCap m : Nat) (S s : ByteArray) (a : Option Addr) (c : Nat) (hm : s.size = m) (hd : m ≤ dLen) (hg : W.heap[g]? = some (.cells (Lib.strCells S).toArray 5 (0, 0))) (hv : BS W (.slice a m c) s) (hfit : o + m ≤ S.size) (ty : TypeId) :
    ∃ w2, (Builtin.copy_ #[28, 28] ty #[.slice (some ⟨g, o, none⟩) dLen dCap, .slice a m c]).run Try.prog W = .ok (.int .i64 m) w2 ∧
      w2.heap[g]? = some (.cells (Lib.strCells (over S o s)).toArray 5 (0, 0)) ∧ Keep (fun i => i = g) W w2 := by
  subst hm
  have := copy_ex W g o dLen dCap S s a c s.size (Nat.min_eq_left hd).symm hg hv hfit ty
  rwa [show s.extract 0 s.size = s from ByteArray.extract_zero_size] at this
theorem made_arr (n : Nat) : madeCells #[Value.int .u8 0] n = (Lib.strCells (zp n)).toArray := by rw [← made_cells]
theorem mk_bytes (n : Nat) (z : Int) (hz : z = n) (hn : n ≤ 70368744177664) : ∃ mc, mc = (Lib.strCells (zp n)).toArray ∧ ∀ W : World, (Instr.makeSlice 28 (.int .i64 z) (.int .i64 z)).run Try.prog W = .ok (.slice (some ⟨W.heap.size, 0, none⟩) n n) (W.alloc (.cells mc 5)) := by
  subst hz
  exact ⟨_, made_arr n, fun W => run_make_row' (P := Try.prog) 28 5 (.int .u8 0) 1 uBytes iByte rfl .i64 .i64 n (by omega) (by omega) W⟩
/-- what Put lays into memory ahead of the sectors -/
structure PutAt (w W : World) (st : Int) (inn : ByteArray) : Prop where
  low : Below w.heap.size w W
  size : w.heap.size + 3 ≤ W.heap.size
  stamp : Boxed W w.heap.size 27 (.int .u64 st)
  box : Boxed W (w.heap.size + 2) 28 (.slice (some ⟨w.heap.size + 1, 0, none⟩) 4032 4032)
  inn : W.heap[w.heap.size + 1]? = some (.cells (Lib.strCells inn).toArray 5 (0, 0))
theorem PutAt.next {w W X : World} {st : Int} {inn inn' : ByteArray} (h : PutAt w W st inn) (hk : Keep (fun i => i = w.heap.size + 1) W X) (hr : X.heap[w.heap.size + 1]? = some (.cells (Lib.strCells inn').toArray 5 (0, 0))) : PutAt w X st inn' :=
  ⟨h.low.trans (hk.below (B := w.heap.size) h.low.size (fun i hi => by subst hi; omega)), Nat.le_trans h.size hk.size, hk.blk h.stamp (fun e => by omega), hk.blk h.box (fun e => by omega), hr⟩
/-- a page behind rounds at sectors -/
def layF (st : Int) (inn : ByteArray) (pre : List (Fin 8)) : ByteArray := pre.foldl (fun P x => over (over P (512 * x.val) (be8 st)) (512 * x.val + 8) (inn.extract (504 * x.val) (504 * x.val + 504))) (zp 4096)
theorem layF_snoc (st : Int) (inn : ByteArray) (pre : List (Fin 8)) (x : Fin 8) : layF st inn (pre ++ [x]) = over (over (layF st inn pre) (512 * x.val) (be8 st)) (512 * x.val + 8) (inn.extract (504 * x.val) (504 * x.val + 504)) := by simp [layF, List.foldl_append]
theorem lay_step_size (st : Int) (inn P : ByteArray) (x : Fin 8) (hi : inn.size = 4032) (h : P.size = 4096) : (over P (512 * x.val) (be8 st)).size = 4096 ∧ (over (over P (512 * x.val) (be8 st)) (512 * x.val + 8) (inn.extract (504 * x.val) (504 * x.val + 504))).size = 4096 := by
  have hx := x.isLt
  have h1 : (over P (512 * x.val) (be8 st)).size = 4096 := by rw [over_size _ _ _ (by rw [be8_size, h]; omega), h]
  exact ⟨h1, by rw [over_size _ _ _ (by rw [h1, ByteArray.size_extract]; omega), h1]⟩
def layS (st : Int) (inn P : ByteArray) (x : Fin 8) : ByteArray := over (over P (512 * x.val) (be8 st)) (512 * x.val + 8) (inn.extract (504 * x.val) (504 * x.val + 504))
theorem layF_eq (st : Int) (inn : ByteArray) (pre : List (Fin 8)) : layF st inn pre = pre.foldl (layS st inn) (zp 4096) := rfl
theorem layS_size (st : Int) (inn : ByteArray) (hi : inn.size = 4032) : ∀ (l : List (Fin 8)) (P : ByteArray), P.size = 4096 → (l.foldl (layS st inn) P).size = 4096
  | [], P, h => by rw [List.foldl_nil]; exact h
  | x :: l, P, h => by rw [List.foldl_cons]; exact layS_size st inn hi l _ (lay_step_size st inn P x hi h).2
theorem layF_size (st : Int) (inn : ByteArray) (hi : inn.size = 4032) (pre : List (Fin 8)) : (layF st inn pre).size = 4096 := by
  rw [layF_eq]; exact layS_size st inn hi pre _ (zp_size 4096)
theorem layF_all (st : Int) (inn : ByteArray) : layF st inn SECS = lay st inn := rfl
theorem others_keep {F : Nat → Prop} {W W' : World} (hk : Keep F W W') (hF : ∀ k o, F k → W.heap[k]? = some o → o.isCells = true) : KeepsOthers W W' :=
  ⟨hk.size, fun k o ho hc => hk.blk ho (fun hf => by rw [hF k o hf ho] at hc; cases hc)⟩
theorem blkf_own {β : Type} (B : Nat) (f : β → Array Value) (T : TypeId) (n₀ : Nat) : OwnFrom n₀ (fun (s : β) W => W.heap[B]? = some (.cells (f s) T (0, 0))) := by
  intro s X Y row h hg hr
  refine (hg.block B (Array.getElem?_eq_some_iff.1 h).1 (fun e' => ?_)).trans h
  obtain ⟨_, o, ho, hc⟩ := hr B e'.symm
  rw [h] at ho; cases ho; cases hc
theorem fput_any (at_ kind st : Int) (v : Value) (b : ByteArray) (a0 : 0 ≤ at_) (a1 : at_ < 4096) (k0 : 0 ≤ kind) (k1 : kind < 256) (s0 : 1 ≤ st) (s1 : st ≤ 18446744073709551615) (w : World) (hS : BS w v b) (hb : b.size ≤ 4011) :
    Calls Try.prog 18 #[.int .i64 at_, .int .u8 kind, .int .u64 st, v] w fun e w' => ∃ v', e = .returned (.tuple #[v', .int .i64 0]) ∧ Own 5 w' w.heap.size v' (frP at_ kind st b) ∧ Below w.heap.size w w' := by
  obtain ⟨a, c, rfl⟩ := hS.len
  have HS := Lib.hid hS
  have i1 : ¬ at_ < 0 := by omega
  have i2 : ¬ at_ ≥ 4096 := by omega
  have i3 : (st == 0) = false := by simp; omega
  have i4 : ¬ (b.size : Int) > 4011 := by omega
  obtain ⟨mc, hml, hmk⟩ := mk_bytes 4032 4032 rfl (by omega)
  have HML := Lib.hid hml
  clear hS hml
  refine (callsIn_wide (n := 9)).1 ?_
  refine callsIn_of_wp_marks Try.func18 rfl trivial ?_ rfl
  simp only [Try.ntmps18, List.size_toArray, List.length_cons, List.length_nil, Nat.reduceAdd, Nat.reduceSub, Array.replicate_succ, Array.replicate_zero, List.push_toArray, List.append_toArray, List.nil_append, List.cons_append]
  gi_wp2
  refine wpIn_gen (fun W => PutAt w W st (zp 4032)) ?_ ?_
  · rw [HML.out]
    refine ⟨(((Below.refl _ w).alloc (Nat.le_refl _) _).alloc (by simp) _).alloc (by simp; omega) _, by simp, ((Boxed.new w _ _).alloc _).alloc _, ?_, ?_⟩
    · have := Boxed.new ((w.alloc (.cells #[.int .u64 st] 27)).alloc (.cells (Lib.strCells (zp 4032)).toArray 5)) 28 (.slice (some ⟨w.heap.size + 1, 0, none⟩) 4032 4032)
      simpa only [World.size_alloc] using this
    · exact blk_alloc (blk_newAt (by simp) _) _
  rintro W1 H1
  have hb1 := H1.low
  have hz1 := H1.size
  have C1 := Lib.hid (show W1.drew.cell? ⟨w.heap.size + 2, 0, none⟩ = some (.slice (some ⟨w.heap.size + 1, 0, none⟩) 4032 4032) from H1.box.cell)
  have CB := Lib.hid fun (X : World) (hb : Below W1.drew.heap.size W1.drew X) => show X.cell? ⟨w.heap.size + 2, 0, none⟩ = some (.slice (some ⟨w.heap.size + 1, 0, none⟩) 4032 4032) from (Keep.ofBelow hb (fun _ => False)).cell C1.out (fun h => h)
  have HS1 := Lib.hid (show BS W1.drew (.slice a b.size c) b from HS.out.below hb1.drew)
  have HH1 := Lib.hid H1
  obtain ⟨m, hm⟩ : ∃ m, (hdB at_ kind b).size = m := ⟨_, rfl⟩
  have HM := Lib.hid hm
  have hm' : m ≤ 4028 := by have := hdB_size at_ kind b; omega
  clear H1 hb1 hm
  have tw1 : IntKind.u64.wrap at_ = at_ := by rw [IntKind.wrap_u64]; omega
  have tw2 : IntKind.u64.wrap (b.size : Int) = b.size := by rw [IntKind.wrap_u64]; omega
  refine wpIn_wide.2 (wp_strict ?_)
  refine wp_region_held_drew (S := (fun w' => w'.cell? ⟨w.heap.size + 2, 0, none⟩ = some (.slice (some ⟨w.heap.size + 1, 0, none⟩) 4032 4032))) (by kernel_rfl) ?_ (fun hHeld0 => ?_)
  · (try dsimp only)
    first | with_reducible exact C1.out | with_reducible exact K4.out | with_reducible exact K3.out | with_reducible exact K2.out | with_reducible exact K1.out | with_reducible exact K5.out
  refine takeN (v := ?_) 0 rfl (by kernel_rfl) (by kernel_rfl) (by kernel_rfl) (fun _ _ _ h => h) (by rfl) ?_ hHeld0 ?_
  rotate_left
  · intro w hSw; (try dsimp only at hSw); go_simp; with_reducible rfl
  try simp only [Act.put, List.setIfInBounds_toArray, List.set_cons_zero, List.set_cons_succ]
  refine takeN (v := ?_) 1 rfl (by kernel_rfl) (by kernel_rfl) (by kernel_rfl) (fun _ _ _ h => h) (by rfl) ?_ hHeld0 ?_
  rotate_left
  · intro w hSw; (try dsimp only at hSw); go_simp; with_reducible rfl
  try simp only [Act.put, List.setIfInBounds_toArray, List.set_cons_zero, List.set_cons_succ]
  refine takeN (v := ?_) 2 rfl (by kernel_rfl) (by kernel_rfl) (by kernel_rfl) (fun _ _ _ h => h) (by rfl) ?_ hHeld0 ?_
  rotate_left
  · intro w hSw; (try dsimp only at hSw); go_simp; with_reducible rfl
  try simp only [Act.put, List.setIfInBounds_toArray, List.set_cons_zero, List.set_cons_succ]
  refine takeN (v := ?_) 4 rfl (by kernel_rfl) (by kernel_rfl) (by kernel_rfl) (fun _ _ _ h => h) (by rfl) ?_ hHeld0 ?_
  rotate_left
  · intro w hSw; (try dsimp only at hSw); go_simp; with_reducible rfl
  try simp only [Act.put, List.setIfInBounds_toArray, List.set_cons_zero, List.set_cons_succ]
  refine takeN (v := ?_) 6 rfl (by kernel_rfl) (by kernel_rfl) (by kernel_rfl) (fun _ _ _ h => h) (by rfl) ?_ hHeld0 ?_
  rotate_left
  · intro w hSw; (try dsimp only at hSw); go_simp; with_reducible rfl
  try simp only [Act.put, List.setIfInBounds_toArray, List.set_cons_zero, List.set_cons_succ]
  refine takeN (v := ?_) 7 rfl (by kernel_rfl) (by kernel_rfl) (by kernel_rfl) (fun _ _ _ h => h) (by rfl) ?_ hHeld0 ?_
  rotate_left
  · intro w hSw; (try dsimp only at hSw); go_simp; with_reducible rfl
  try simp only [Act.put, List.setIfInBounds_toArray, List.set_cons_zero, List.set_cons_succ]
  refine takeN (v := ?_) 8 rfl (by kernel_rfl) (by kernel_rfl) (by kernel_rfl) (fun _ _ _ h => h) (by rfl) ?_ hHeld0 ?_
  rotate_left
  · intro w hSw; (try dsimp only at hSw); go_simp; with_reducible rfl
  try simp only [Act.put, List.setIfInBounds_toArray, List.set_cons_zero, List.set_cons_succ]
  refine takeN (v := ?_) 10 rfl (by kernel_rfl) (by kernel_rfl) (by kernel_rfl) (fun _ _ _ h => h) (by rfl) ?_ hHeld0 ?_
  rotate_left
  · intro w hSw; (try dsimp only at hSw); go_simp; with_reducible rfl
  try simp only [Act.put, List.setIfInBounds_toArray, List.set_cons_zero, List.set_cons_succ]
  refine wpAnyH_ready (rs := [3]) (by kernel_rfl) (by simp) ?_
  refine readyN rfl (fun K hK => ?_) ?_
  · -- operation 3
    go_simp
    first
      | (go_at_call 51; refine (byte_w v1 (be8 at_) kind k0 k1 _ O1.out.bs (by rw [be8_size]; omega)).mono ?_; rintro e w2 ⟨v2, rfl, ho, hb⟩
         have B2 := Lib.hid (below_and B1.out hb)
         have O2 := Lib.hid ho
         have K2 := Lib.hid (CB.out _ B2.out)
         clear ho hb)
      | (go_at_call 50; with_reducible refine (uint_w v2 (be8 at_ ++ bOne kind) b.size (by omega) (by omega) _ O2.out.bs (by rw [size_append, be8_size, size_one]; omega)).mono ?_; rintro e w3 ⟨v3, rfl, ho, hb⟩
         have B3 := Lib.hid (below_and B2.out hb)
         have O3 := Lib.hid ho
         have K3 := Lib.hid (CB.out _ B3.out)
         obtain ⟨v4, w4, hap, ho4, hg4⟩ := app_bs_ex w3 w2.heap.size 28 5 28 uBytes iByte v3 (.slice a b.size c) (be8 at_ ++ bOne kind ++ be8 b.size) b ho (HS1.out.below B3.out) hb.size (by rw [size_append, size_append, be8_size, be8_size, size_one]; omega)
         have B4 := Lib.hid (below_and B2.out (hb.trans (hg4.below hb.size (fun k hk => (ho.base_le k hk).1))))
         obtain ⟨a4, c4, rfl, _, _⟩ := ho4.bs.len2 HM.out
         have O4 := Lib.hid ho4
         have K4 := Lib.hid (CB.out _ B4.out)
         obtain ⟨w5, hcp, hr5, hk5⟩ := copy_n w4 (w.heap.size + 1) 0 4032 4032 m (zp 4032) (hdB at_ kind b) a4 c4 HM.out (by omega) ((Keep.ofBelow B4.out (fun _ => False)).blk HH1.out.inn (fun h => h)) ho4.bs (by rw [zp_size]; omega) 3
         have R5 := Lib.hid hr5
         have Q5 := Lib.hid hk5
         have K5 := Lib.hid (hk5.cell K4.out (fun e => by simp at e))
         have HCP := Lib.hid hcp
         have HAP := Lib.hid hap
         clear ho hb ho4 hg4 hr5 hk5 hcp hap)
      | (go_at_call 50; with_reducible refine (uint_w (.slice none 0 0) ByteArray.empty at_ a0 (by omega) _ (BS.nil _) (by decide)).mono ?_; rintro e w1 ⟨v1, rfl, ho, hb⟩; rw [ByteArray.empty_append] at ho
         have B1 := Lib.hid hb
         have O1 := Lib.hid ho
         have K1 := Lib.hid (CB.out _ B1.out)
         clear ho hb)
      | (refine wp_append_run _ _ 28 (v := v3) (y := .slice a b.size c) rfl rfl rfl (by with_reducible exact HAP.out) ?_)
      | (refine wp_copy_run _ _ 28 28 (v := .slice (some ⟨w.heap.size + 1, 0, none⟩) 4032 4032) (y := .slice a4 m c4) rfl rfl rfl (by with_reducible exact HCP.out) ?_)
    go_wp2_with fail
    refine hK.out _ _ ?_ (fun hHeld1 => ?_)
    · (try dsimp only)
      first | with_reducible exact C1.out | with_reducible exact K4.out | with_reducible exact K3.out | with_reducible exact K2.out | with_reducible exact K1.out | with_reducible exact K5.out
    clear hK K hHeld0
    try simp only [Act.put, List.setIfInBounds_toArray, List.set_cons_zero, List.set_cons_succ]
    refine wpAnyH_ready (rs := [5]) (by kernel_rfl) (by simp) ?_
    refine readyN rfl (fun K hK => ?_) ?_
    · -- operation 5
      go_simp
      first
        | (go_at_call 51; refine (byte_w v1 (be8 at_) kind k0 k1 _ O1.out.bs (by rw [be8_size]; omega)).mono ?_; rintro e w2 ⟨v2, rfl, ho, hb⟩
           have B2 := Lib.hid (below_and B1.out hb)
           have O2 := Lib.hid ho
           have K2 := Lib.hid (CB.out _ B2.out)
           clear ho hb)
        | (go_at_call 50; with_reducible refine (uint_w v2 (be8 at_ ++ bOne kind) b.size (by omega) (by omega) _ O2.out.bs (by rw [size_append, be8_size, size_one]; omega)).mono ?_; rintro e w3 ⟨v3, rfl, ho, hb⟩
           have B3 := Lib.hid (below_and B2.out hb)
           have O3 := Lib.hid ho
           have K3 := Lib.hid (CB.out _ B3.out)
           obtain ⟨v4, w4, hap, ho4, hg4⟩ := app_bs_ex w3 w2.heap.size 28 5 28 uBytes iByte v3 (.slice a b.size c) (be8 at_ ++ bOne kind ++ be8 b.size) b ho (HS1.out.below B3.out) hb.size (by rw [size_append, size_append, be8_size, be8_size, size_one]; omega)
           have B4 := Lib.hid (below_and B2.out (hb.trans (hg4.below hb.size (fun k hk => (ho.base_le k hk).1))))
           obtain ⟨a4, c4, rfl, _, _⟩ := ho4.bs.len2 HM.out
           have O4 := Lib.hid ho4
           have K4 := Lib.hid (CB.out _ B4.out)
           obtain ⟨w5, hcp, hr5, hk5⟩ := copy_n w4 (w.heap.size + 1) 0 4032 4032 m (zp 4032) (hdB at_ kind b) a4 c4 HM.out (by omega) ((Keep.ofBelow B4.out (fun _ => False)).blk HH1.out.inn (fun h => h)) ho4.bs (by rw [zp_size]; omega) 3
           have R5 := Lib.hid hr5
           have Q5 := Lib.hid hk5
           have K5 := Lib.hid (hk5.cell K4.out (fun e => by simp at e))
           have HCP := Lib.hid hcp
           have HAP := Lib.hid hap
           clear ho hb ho4 hg4 hr5 hk5 hcp hap)
        | (go_at_call 50; with_reducible refine (uint_w (.slice none 0 0) ByteArray.empty at_ a0 (by omega) _ (BS.nil _) (by decide)).mono ?_; rintro e w1 ⟨v1, rfl, ho, hb⟩; rw [ByteArray.empty_append] at ho
           have B1 := Lib.hid hb
           have O1 := Lib.hid ho
           have K1 := Lib.hid (CB.out _ B1.out)
           clear ho hb)
        | (refine wp_append_run _ _ 28 (v := v3) (y := .slice a b.size c) rfl rfl rfl (by with_reducible exact HAP.out) ?_)
        | (refine wp_copy_run _ _ 28 28 (v := .slice (some ⟨w.heap.size + 1, 0, none⟩) 4032 4032) (y := .slice a4 m c4) rfl rfl rfl (by with_reducible exact HCP.out) ?_)
      go_wp2_with fail
      refine hK.out _ _ ?_ (fun hHeld2 => ?_)
      · (try dsimp only)
        first | with_reducible exact C1.out | with_reducible exact K4.out | with_reducible exact K3.out | with_reducible exact K2.out | with_reducible exact K1.out | with_reducible exact K5.out
      clear hK K hHeld1
      try simp only [Act.put, List.setIfInBounds_toArray, List.set_cons_zero, List.set_cons_succ]
      refine wpAnyH_ready (rs := [9]) (by kernel_rfl) (by simp) ?_
      refine readyN rfl (fun K hK => ?_) ?_
      · -- operation 9
        go_simp
        first
          | (go_at_call 51; refine (byte_w v1 (be8 at_) kind k0 k1 _ O1.out.bs (by rw [be8_size]; omega)).mono ?_; rintro e w2 ⟨v2, rfl, ho, hb⟩
             have B2 := Lib.hid (below_and B1.out hb)
             have O2 := Lib.hid ho
             have K2 := Lib.hid (CB.out _ B2.out)
             clear ho hb)
          | (go_at_call 50; with_reducible refine (uint_w v2 (be8 at_ ++ bOne kind) b.size (by omega) (by omega) _ O2.out.bs (by rw [size_append, be8_size, size_one]; omega)).mono ?_; rintro e w3 ⟨v3, rfl, ho, hb⟩
             have B3 := Lib.hid (below_and B2.out hb)
             have O3 := Lib.hid ho
             have K3 := Lib.hid (CB.out _ B3.out)
             obtain ⟨v4, w4, hap, ho4, hg4⟩ := app_bs_ex w3 w2.heap.size 28 5 28 uBytes iByte v3 (.slice a b.size c) (be8 at_ ++ bOne kind ++ be8 b.size) b ho (HS1.out.below B3.out) hb.size (by rw [size_append, size_append, be8_size, be8_size, size_one]; omega)
             have B4 := Lib.hid (below_and B2.out (hb.trans (hg4.below hb.size (fun k hk => (ho.base_le k hk).1))))
             obtain ⟨a4, c4, rfl, _, _⟩ := ho4.bs.len2 HM.out
             have O4 := Lib.hid ho4
             have K4 := Lib.hid (CB.out _ B4.out)
             obtain ⟨w5, hcp, hr5, hk5⟩ := copy_n w4 (w.heap.size + 1) 0 4032 4032 m (zp 4032) (hdB at_ kind b) a4 c4 HM.out (by omega) ((Keep.ofBelow B4.out (fun _ => False)).blk HH1.out.inn (fun h => h)) ho4.bs (by rw [zp_size]; omega) 3
             have R5 := Lib.hid hr5
             have Q5 := Lib.hid hk5
             have K5 := Lib.hid (hk5.cell K4.out (fun e => by simp at e))
             have HCP := Lib.hid hcp
             have HAP := Lib.hid hap
             clear ho hb ho4 hg4 hr5 hk5 hcp hap)
          | (go_at_call 50; with_reducible refine (uint_w (.slice none 0 0) ByteArray.empty at_ a0 (by omega) _ (BS.nil _) (by decide)).mono ?_; rintro e w1 ⟨v1, rfl, ho, hb⟩; rw [ByteArray.empty_append] at ho
             have B1 := Lib.hid hb
             have O1 := Lib.hid ho
             have K1 := Lib.hid (CB.out _ B1.out)
             clear ho hb)
          | (refine wp_append_run _ _ 28 (v := v3) (y := .slice a b.size c) rfl rfl rfl (by with_reducible exact HAP.out) ?_)
          | (refine wp_copy_run _ _ 28 28 (v := .slice (some ⟨w.heap.size + 1, 0, none⟩) 4032 4032) (y := .slice a4 m c4) rfl rfl rfl (by with_reducible exact HCP.out) ?_)
        go_wp2_with fail
        refine hK.out _ _ ?_ (fun hHeld3 => ?_)
        · (try dsimp only)
          first | with_reducible exact C1.out | with_reducible exact K4.out | with_reducible exact K3.out | with_reducible exact K2.out | with_reducible exact K1.out | with_reducible exact K5.out
        clear hK K hHeld2
        try simp only [Act.put, List.setIfInBounds_toArray, List.set_cons_zero, List.set_cons_succ]
        refine wpAnyH_ready (rs := [11]) (by kernel_rfl) (by simp) ?_
        refine readyN rfl (fun K hK => ?_) ?_
        · -- operation 11
          first
            | (go_at_call 51; refine (byte_w v1 (be8 at_) kind k0 k1 _ O1.out.bs (by rw [be8_size]; omega)).mono ?_; rintro e w2 ⟨v2, rfl, ho, hb⟩
               have B2 := Lib.hid (below_and B1.out hb)
               have O2 := Lib.hid ho
               have K2 := Lib.hid (CB.out _ B2.out)
               clear ho hb)
            | (go_at_call 50; with_reducible refine (uint_w v2 (be8 at_ ++ bOne kind) b.size (by omega) (by omega) _ O2.out.bs (by rw [size_append, be8_size, size_one]; omega)).mono ?_; rintro e w3 ⟨v3, rfl, ho, hb⟩
               have B3 := Lib.hid (below_and B2.out hb)
               have O3 := Lib.hid ho
               have K3 := Lib.hid (CB.out _ B3.out)
               obtain ⟨v4, w4, hap, ho4, hg4⟩ := app_bs_ex w3 w2.heap.size 28 5 28 uBytes iByte v3 (.slice a b.size c) (be8 at_ ++ bOne kind ++ be8 b.size) b ho (HS1.out.below B3.out) hb.size (by rw [size_append, size_append, be8_size, be8_size, size_one]; omega)
               have B4 := Lib.hid (below_and B2.out (hb.trans (hg4.below hb.size (fun k hk => (ho.base_le k hk).1))))
               obtain ⟨a4, c4, rfl, _, _⟩ := ho4.bs.len2 HM.out
               have O4 := Lib.hid ho4
               have K4 := Lib.hid (CB.out _ B4.out)
               obtain ⟨w5, hcp, hr5, hk5⟩ := copy_n w4 (w.heap.size + 1) 0 4032 4032 m (zp 4032) (hdB at_ kind b) a4 c4 HM.out (by omega) ((Keep.ofBelow B4.out (fun _ => False)).blk HH1.out.inn (fun h => h)) ho4.bs (by rw [zp_size]; omega) 3
               have R5 := Lib.hid hr5
               have Q5 := Lib.hid hk5
               have K5 := Lib.hid (hk5.cell K4.out (fun e => by simp at e))
               have HCP := Lib.hid hcp
               have HAP := Lib.hid hap
               clear ho hb ho4 hg4 hr5 hk5 hcp hap)
            | (go_at_call 50; with_reducible refine (uint_w (.slice none 0 0) ByteArray.empty at_ a0 (by omega) _ (BS.nil _) (by decide)).mono ?_; rintro e w1 ⟨v1, rfl, ho, hb⟩; rw [ByteArray.empty_append] at ho
               have B1 := Lib.hid hb
               have O1 := Lib.hid ho
               have K1 := Lib.hid (CB.out _ B1.out)
               clear ho hb)
            | (refine wp_append_run _ _ 28 (v := v3) (y := .slice a b.size c) rfl rfl rfl (by with_reducible exact HAP.out) ?_)
            | (refine wp_copy_run _ _ 28 28 (v := .slice (some ⟨w.heap.size + 1, 0, none⟩) 4032 4032) (y := .slice a4 m c4) rfl rfl rfl (by with_reducible exact HCP.out) ?_)
          refine hK.out _ _ ?_ (fun hHeld4 => ?_)
          · (try dsimp only)
            first | with_reducible exact C1.out | with_reducible exact K4.out | with_reducible exact K3.out | with_reducible exact K2.out | with_reducible exact K1.out | with_reducible exact K5.out
          clear hK K hHeld3
          try simp only [Act.put, List.setIfInBounds_toArray, List.set_cons_zero, List.set_cons_succ]
          refine wpAnyH_ready (rs := [12]) (by kernel_rfl) (by simp) ?_
          refine readyN rfl (fun K hK => ?_) ?_
          · -- operation 12
            first
              | (go_at_call 51; refine (byte_w v1 (be8 at_) kind k0 k1 _ O1.out.bs (by rw [be8_size]; omega)).mono ?_; rintro e w2 ⟨v2, rfl, ho, hb⟩
                 have B2 := Lib.hid (below_and B1.out hb)
                 have O2 := Lib.hid ho
                 have K2 := Lib.hid (CB.out _ B2.out)
                 clear ho hb)
              | (go_at_call 50; with_reducible refine (uint_w v2 (be8 at_ ++ bOne kind) b.size (by omega) (by omega) _ O2.out.bs (by rw [size_append, be8_size, size_one]; omega)).mono ?_; rintro e w3 ⟨v3, rfl, ho, hb⟩
                 have B3 := Lib.hid (below_and B2.out hb)
                 have O3 := Lib.hid ho
                 have K3 := Lib.hid (CB.out _ B3.out)
                 obtain ⟨v4, w4, hap, ho4, hg4⟩ := app_bs_ex w3 w2.heap.size 28 5 28 uBytes iByte v3 (.slice a b.size c) (be8 at_ ++ bOne kind ++ be8 b.size) b ho (HS1.out.below B3.out) hb.size (by rw [size_append, size_append, be8_size, be8_size, size_one]; omega)
                 have B4 := Lib.hid (below_and B2.out (hb.trans (hg4.below hb.size (fun k hk => (ho.base_le k hk).1))))
                 obtain ⟨a4, c4, rfl, _, _⟩ := ho4.bs.len2 HM.out
                 have O4 := Lib.hid ho4
                 have K4 := Lib.hid (CB.out _ B4.out)
                 obtain ⟨w5, hcp, hr5, hk5⟩ := copy_n w4 (w.heap.size + 1) 0 4032 4032 m (zp 4032) (hdB at_ kind b) a4 c4 HM.out (by omega) ((Keep.ofBelow B4.out (fun _ => False)).blk HH1.out.inn (fun h => h)) ho4.bs (by rw [zp_size]; omega) 3
                 have R5 := Lib.hid hr5
                 have Q5 := Lib.hid hk5
                 have K5 := Lib.hid (hk5.cell K4.out (fun e => by simp at e))
                 have HCP := Lib.hid hcp
                 have HAP := Lib.hid hap
                 clear ho hb ho4 hg4 hr5 hk5 hcp hap)
              | (go_at_call 50; with_reducible refine (uint_w (.slice none 0 0) ByteArray.empty at_ a0 (by omega) _ (BS.nil _) (by decide)).mono ?_; rintro e w1 ⟨v1, rfl, ho, hb⟩; rw [ByteArray.empty_append] at ho
                 have B1 := Lib.hid hb
                 have O1 := Lib.hid ho
                 have K1 := Lib.hid (CB.out _ B1.out)
                 clear ho hb)
              | (refine wp_append_run _ _ 28 (v := v3) (y := .slice a b.size c) rfl rfl rfl (by with_reducible exact HAP.out) ?_)
              | (refine wp_copy_run _ _ 28 28 (v := .slice (some ⟨w.heap.size + 1, 0, none⟩) 4032 4032) (y := .slice a4 m c4) rfl rfl rfl (by with_reducible exact HCP.out) ?_)
            refine hK.out _ _ ?_ (fun hHeld5 => ?_)
            · (try dsimp only)
              first | with_reducible exact C1.out | with_reducible exact K4.out | with_reducible exact K3.out | with_reducible exact K2.out | with_reducible exact K1.out | with_reducible exact K5.out
            clear hK K hHeld4
            try simp only [Act.put, List.setIfInBounds_toArray, List.set_cons_zero, List.set_cons_succ]
            refine wpAnyH_done (by kernel_rfl) ?_ _
            have HP := Lib.hid (show PutAt w w5 st (in0 at_ kind b) from HH1.out.next (((Keep.refl _ W1).drew.trans (Keep.ofBelow B4.out (fun i => i = w.heap.size + 1)) (fun i hi => .inl hi)).trans Q5.out (fun i hi => .inl hi)) R5.out)
            clear K5 K4 K3 K2 K1 Q5 R5 O4 O3 O2 O1 B4 B3 B2 B1 HH1 CB C1 HCP HAP HS1 HM
            dsimp only
            gi_wp2
            have e7 : ∀ W : World, (Instr.slice 28 (.slice (some ⟨w.heap.size + 1, 0, none⟩) 4032 4032) (some (.int .i64 4028)) none none).run Try.prog W = .ok (.slice (some ⟨w.heap.size + 1, 4028, none⟩) 4 4) W := fun W => by
              have := slice_from (w.heap.size + 1) 0 4032 4032 4028 4028 rfl (by decide) (by decide) (by decide) (by decide) W
              rwa [Nat.zero_add] at this
            have D1 := Lib.hid (show w5.drew.cell? ⟨w.heap.size + 2, 0, none⟩ = some (.slice (some ⟨w.heap.size + 1, 0, none⟩) 4032 4032) ∧ w5.drew.cell? ⟨w.heap.size, 0, none⟩ = some (.int .u64 st) from ⟨HP.out.box.cell, HP.out.stamp.cell⟩)
            have DB := Lib.hid fun (X : World) (hb : Below w5.drew.heap.size w5.drew X) => show X.cell? ⟨w.heap.size + 2, 0, none⟩ = some (.slice (some ⟨w.heap.size + 1, 0, none⟩) 4032 4032) ∧ X.cell? ⟨w.heap.size, 0, none⟩ = some (.int .u64 st) from ⟨(Keep.ofBelow hb (fun _ => False)).cell D1.out.1 (fun h => h), (Keep.ofBelow hb (fun _ => False)).cell D1.out.2 (fun h => h)⟩
            have hin0 := in0_size at_ kind b hb
            have HF := Lib.hid (fcheck_any st (by omega) s1 (.slice (some ⟨w.heap.size + 1, 0, none⟩) 4032 4032) (in0 at_ kind b) w5.drew (by
              have := (Own.of_blk (base := 0) (show w5.drew.heap[w.heap.size + 1]? = _ from HP.out.inn) (Nat.zero_le _) (by rw [hin0]; decide)).bs
              rwa [hin0] at this) hin0)
            have HIN := Lib.hid hin0
            clear hin0
            refine wpIn_wide.2 (wp_strict ?_)
            refine wp_region_held_drew (S := (fun w' => w'.cell? ⟨w.heap.size + 2, 0, none⟩ = some (.slice (some ⟨w.heap.size + 1, 0, none⟩) 4032 4032) ∧ w'.cell? ⟨w.heap.size, 0, none⟩ = some (.int .u64 st))) (by kernel_rfl) ?_ (fun hHeld0 => ?_)
            · (try dsimp only)
              first | with_reducible exact D1.out | with_reducible exact D7.out | with_reducible exact D6.out
            refine takeN (v := ?_) 0 rfl (by kernel_rfl) (by kernel_rfl) (by kernel_rfl) (fun _ _ _ h => h) (by rfl) ?_ hHeld0 ?_
            rotate_left
            · intro w hSw; (try dsimp only at hSw); go_simp; with_reducible rfl
            try simp only [Act.put, List.setIfInBounds_toArray, List.set_cons_zero, List.set_cons_succ]
            refine takeN (v := ?_) 1 rfl (by kernel_rfl) (by kernel_rfl) (by kernel_rfl) (fun _ _ _ h => h) (by rfl) ?_ hHeld0 ?_
            rotate_left
            · intro w hSw; (try dsimp only at hSw); go_simp; with_reducible rfl
            try simp only [Act.put, List.setIfInBounds_toArray, List.set_cons_zero, List.set_cons_succ]
            refine takeN (v := ?_) 2 rfl (by kernel_rfl) (by kernel_rfl) (by kernel_rfl) (fun _ _ _ h => h) (by rfl) ?_ hHeld0 ?_
            rotate_left
            · intro w hSw; (try dsimp only at hSw); go_simp; with_reducible rfl
            try simp only [Act.put, List.setIfInBounds_toArray, List.set_cons_zero, List.set_cons_succ]
            refine takeN (v := ?_) 3 rfl (by kernel_rfl) (by kernel_rfl) (by kernel_rfl) (fun _ _ _ h => h) (by rfl) ?_ hHeld0 ?_
            rotate_left
            · intro w hSw; (try dsimp only at hSw); go_simp; with_reducible rfl
            try simp only [Act.put, List.setIfInBounds_toArray, List.set_cons_zero, List.set_cons_succ]
            refine wpAnyH_ready (rs := [4]) (by kernel_rfl) (by simp) ?_
            refine readyN rfl (fun K hK => ?_) ?_
            · -- operation 4
              go_simp
              first
                | (go_at_call 52; refine HF.out.mono ?_; rintro e w6 ⟨v6, rfl, ho, hb⟩
                   have B6 := Lib.hid hb
                   have D6 := Lib.hid (DB.out _ B6.out)
                   obtain ⟨a6, c6, rfl, _, _⟩ := ho.len2 (ckB_size st (in0 at_ kind b))
                   obtain ⟨w7, hcp, hr7, hk7⟩ := copy_n w6 (w.heap.size + 1) 4028 4 4 4 (in0 at_ kind b) (ckB st (in0 at_ kind b)) a6 c6 (ckB_size _ _) (by omega) ((Keep.ofBelow B6.out (fun _ => False)).blk HP.out.inn (fun h => h)) ho (by rw [HIN.out]; omega) 3
                   have R7 := Lib.hid hr7
                   have Q7 := Lib.hid hk7
                   have D7 := Lib.hid (show w7.cell? ⟨w.heap.size + 2, 0, none⟩ = some (.slice (some ⟨w.heap.size + 1, 0, none⟩) 4032 4032) ∧ w7.cell? ⟨w.heap.size, 0, none⟩ = some (.int .u64 st) from ⟨hk7.cell D6.out.1 (fun e => by simp at e), hk7.cell D6.out.2 (fun e => by simp at e)⟩)
                   have HCP := Lib.hid hcp
                   clear ho hb hcp hr7 hk7)
                | (refine wp_copy_run _ _ 28 28 (v := .slice (some ⟨w.heap.size + 1, 4028, none⟩) 4 4) (y := .slice a6 4 c6) rfl rfl rfl (by with_reducible exact HCP.out) ?_)
              go_wp2_with fail
              refine hK.out _ _ ?_ (fun hHeld1 => ?_)
              · (try dsimp only)
                first | with_reducible exact D1.out | with_reducible exact D7.out | with_reducible exact D6.out
              clear hK K hHeld0
              try simp only [Act.put, List.setIfInBounds_toArray, List.set_cons_zero, List.set_cons_succ]
              refine wpAnyH_ready (rs := [5]) (by kernel_rfl) (by simp) ?_
              refine readyN rfl (fun K hK => ?_) ?_
              · -- operation 5
                first
                  | (go_at_call 52; refine HF.out.mono ?_; rintro e w6 ⟨v6, rfl, ho, hb⟩
                     have B6 := Lib.hid hb
                     have D6 := Lib.hid (DB.out _ B6.out)
                     obtain ⟨a6, c6, rfl, _, _⟩ := ho.len2 (ckB_size st (in0 at_ kind b))
                     obtain ⟨w7, hcp, hr7, hk7⟩ := copy_n w6 (w.heap.size + 1) 4028 4 4 4 (in0 at_ kind b) (ckB st (in0 at_ kind b)) a6 c6 (ckB_size _ _) (by omega) ((Keep.ofBelow B6.out (fun _ => False)).blk HP.out.inn (fun h => h)) ho (by rw [HIN.out]; omega) 3
                     have R7 := Lib.hid hr7
                     have Q7 := Lib.hid hk7
                     have D7 := Lib.hid (show w7.cell? ⟨w.heap.size + 2, 0, none⟩ = some (.slice (some ⟨w.heap.size + 1, 0, none⟩) 4032 4032) ∧ w7.cell? ⟨w.heap.size, 0, none⟩ = some (.int .u64 st) from ⟨hk7.cell D6.out.1 (fun e => by simp at e), hk7.cell D6.out.2 (fun e => by simp at e)⟩)
                     have HCP := Lib.hid hcp
                     clear ho hb hcp hr7 hk7)
                  | (refine wp_copy_run _ _ 28 28 (v := .slice (some ⟨w.heap.size + 1, 4028, none⟩) 4 4) (y := .slice a6 4 c6) rfl rfl rfl (by with_reducible exact HCP.out) ?_)
                refine hK.out _ _ ?_ (fun hHeld2 => ?_)
                · (try dsimp only)
                  first | with_reducible exact D1.out | with_reducible exact D7.out | with_reducible exact D6.out
                clear hK K hHeld1
                try simp only [Act.put, List.setIfInBounds_toArray, List.set_cons_zero, List.set_cons_succ]
                refine wpAnyH_done (by kernel_rfl) ?_ _
                have HP7 := Lib.hid (show PutAt w w7 st (frIn at_ kind st b) from HP.out.next (((Keep.refl _ w5).drew.trans (Keep.ofBelow B6.out (fun i => i = w.heap.size + 1)) (fun i hi => .inl hi)).trans Q7.out (fun i hi => .inl hi)) R7.out)
                clear D7 D6 D1 DB HF HIN B6 R7 Q7 HCP HP
                dsimp only
                obtain ⟨mp, hmp, hmk2⟩ := mk_bytes 4096 4096 rfl (by omega)
                have HMP := Lib.hid hmp
                have HSC := Lib.hid sectors_any
                clear hmp hmk e7
                gi_wp2_with (refine ⟨trivial, ?_⟩; gi_at_call 36; refine (callsIn_wide.2 (HSC.out _)).mono ?_; rintro e w' ⟨rfl, rfl⟩)
                obtain ⟨g, hg⟩ : ∃ g, g = w.heap.size + 1 := ⟨_, rfl⟩
                obtain ⟨p, hp⟩ : ∃ p, p = w7.heap.size := ⟨_, rfl⟩
                have q1 := HP7.out.low
                have q2 := HP7.out.size
                have p1 : (((w7.alloc (.cells mp 5)).alloc (.cells #[.slice (some ⟨w7.heap.size, 0, none⟩) 4096 4096] 28))).heap[w7.heap.size]? = some (.cells (Lib.strCells (zp 4096)).toArray 5 (0, 0)) := by rw [HMP.out]; exact blk_alloc (blk_new _ _) _
                have p2 : Boxed ((w7.alloc (.cells mp 5)).alloc (.cells #[.slice (some ⟨w7.heap.size, 0, none⟩) 4096 4096] 28)) (w7.heap.size + 1) 28 (.slice (some ⟨w7.heap.size, 0, none⟩) 4096 4096) := blk_newAt (by simp) _
                have p3 := (HP7.out.stamp.alloc (.cells mp 5)).alloc (.cells #[.slice (some ⟨w7.heap.size, 0, none⟩) 4096 4096] 28)
                have p4 := (HP7.out.box.alloc (.cells mp 5)).alloc (.cells #[.slice (some ⟨w7.heap.size, 0, none⟩) 4096 4096] 28)
                have p5 := blk_alloc (blk_alloc HP7.out.inn (.cells mp 5)) (.cells #[.slice (some ⟨w7.heap.size, 0, none⟩) 4096 4096] 28)
                have p6 : Below w.heap.size w ((w7.alloc (.cells mp 5)).alloc (.cells #[.slice (some ⟨w7.heap.size, 0, none⟩) 4096 4096] 28)) := (q1.alloc q1.size _).alloc (by have := q1.size; simp; omega) _
                obtain ⟨W0, hW0⟩ : ∃ W0, (w7.alloc (.cells mp 5)).alloc (.cells #[.slice (some ⟨w7.heap.size, 0, none⟩) 4096 4096] 28) = W0 := ⟨_, rfl⟩
                have hsz : W0.heap.size = w7.heap.size + 2 := by rw [← hW0]; simp
                rw [hW0] at p1 p2 p3 p4 p5 p6 ⊢
                clear hW0 hg hp
                obtain ⟨inn, hinn⟩ : ∃ inn, inn = frIn at_ kind st b := ⟨_, rfl⟩
                have hisz : inn.size = 4032 := by rw [hinn]; exact frIn_size _ _ _ _ hb
                rw [← hinn] at p5
                have HINN := Lib.hid hinn
                have HISZ := Lib.hid hisz
                clear hinn hisz
                refine wpIn_rangeFunc_ownH rfl (by decide) (gf := 64) (lb := #[]) rfl trivial (enters_of Try.func64 (by kernel_rfl) rfl)
                  (sec1_stops (9 - 1) (by decide) W0) (fun _ _ => trivial) (fun _ _ _ _ _ _ _ _ => trivial) (Below.refl _ _) (fun _ => rfl)
                  (fun pre W => ((((Boxed W w.heap.size 27 (.int .u64 st) ∧ Boxed W (w.heap.size + 2) 28 (.slice (some ⟨w.heap.size + 1, 0, none⟩) 4032 4032)) ∧ Boxed W (w7.heap.size + 1) 28 (.slice (some ⟨w7.heap.size, 0, none⟩) 4096 4096)) ∧ W.heap[w.heap.size + 1]? = some (.cells (Lib.strCells inn).toArray 5 (0, 0))) ∧ W.heap[w7.heap.size]? = some (.cells (Lib.strCells (layF st inn pre)).toArray 5 (0, 0))) ∧ Below w.heap.size w W)
                  (fun _ _ _ => False)
                  (OwnFrom.and (OwnFrom.and (OwnFrom.and (OwnFrom.and (OwnFrom.and (blkf_own _ _ _ _) (blkf_own _ _ _ _)) (blkf_own _ _ _ _)) (blkf_own _ _ _ _)) (blkf_own _ (fun pre => (Lib.strCells (layF st inn pre)).toArray) _ _)) (ownFrom_below (Nat.le_refl _) (by omega)))
                  (fun _ _ _ _ _ hs _ _ => hs)
                  ⟨⟨⟨⟨⟨p3, p4⟩, p2⟩, p5⟩, p1⟩, p6⟩
                  (fun x a' _ => a' = { tmps := #[Value.int IntKind.i64 at_, Value.int IntKind.u8 kind, Value.int IntKind.u64 st, Value.slice a b.size c, undef, undef, Value.pointer (some { block := w.heap.size, off := 0 }), undef, Value.slice none 0 0, Value.int IntKind.i64 0, Value.pointer (some { block := w.heap.size + 1 + 1, off := 0 }), Value.pointer (some { block := w7.heap.size + 1, off := 0 }), Value.int IntKind.i64 ((x.val : Int) * 504), Value.int IntKind.i64 ((x.val : Int) * 512), Value.bool false, Value.int IntKind.i64 at_, Value.bool false, Value.bool false, Value.int IntKind.i64 at_, Value.bool false, Value.bool false, Value.bool false, Value.int IntKind.u64 st, Value.bool false, Value.bool false, Value.bool false, Value.slice a b.size c, Value.int IntKind.i64 ↑b.size, Value.bool false, Value.slice (some { block := w.heap.size + 1, off := 0 }) 4032 4032, Value.slice (some { block := w.heap.size + 1, off := 0 }) 4032 4032, Value.int IntKind.i64 at_, Value.int IntKind.u64 at_, v1, Value.int IntKind.u8 kind, v2, Value.slice a b.size c, Value.int IntKind.i64 ↑b.size, Value.int IntKind.u64 ↑b.size, v3, Value.slice a b.size c, Value.slice a4 m c4, Value.int IntKind.i64 ↑m, Value.slice (some { block := w.heap.size + 1, off := 0 }) 4032 4032, Value.slice (some { block := w.heap.size + 1, off := 4028 }) 4 4, Value.int IntKind.u64 st, Value.slice (some { block := w.heap.size + 1, off := 0 }) 4032 4032, Value.slice a6 4 c6, Value.int IntKind.i64 4, Value.slice (some { block := w7.heap.size, off := 0 }) 4096 4096, Value.func (Fn.func 64) #[] #[], Value.int IntKind.i64 ((x.val : Int) * 504), Value.int IntKind.i64 ((x.val : Int) * 512), undef, undef, undef, undef, undef, undef, undef, undef, undef, undef, undef, undef, undef, undef, undef, undef, undef], defers := [] })
                  (fun _ _ _ _ _ _ hs _ _ => hs)
                  ?assign ?body ?done ?stop
                case assign =>
                  rintro l pre x W K hI hK
                  unfold secV
                  gi_wp2
                  exact hK _ _ (KeepsFrom.refl _ _) trivial hI rfl
                case body =>
                  rintro l pre x a' W hl0 ⟨r, hr0⟩ ⟨⟨⟨⟨⟨b1, b2⟩, b3⟩, b4⟩, b5⟩, hB⟩ rfl hlt
                  obtain ⟨k, hk⟩ := x
                  have hPs := layF_size st inn HISZ.out pre
                  have hss := lay_step_size st inn (layF st inn pre) ⟨k, hk⟩ HISZ.out hPs
                  have hsn := layF_snoc st inn pre ⟨k, hk⟩
                  obtain ⟨P, hP⟩ : ∃ P, P = layF st inn pre := ⟨_, rfl⟩
                  rw [← hP] at hPs hss hsn b5
                  dsimp only at hss hsn ⊢
                  obtain ⟨P1, hP1⟩ : ∃ P1, P1 = over P (512 * k) (be8 st) := ⟨_, rfl⟩
                  rw [← hP1] at hss hsn
                  have hwW := hB.size
                  have e12 : ∀ W : World, (Instr.slice 28 (.slice (some ⟨w7.heap.size, 0, none⟩) 4096 4096) (some (.int .i64 ((k : Int) * 512))) none none).run Try.prog W = .ok (.slice (some ⟨w7.heap.size, 512 * k, none⟩) (4096 - 512 * k) (4096 - 512 * k)) W := fun W => by
                    have := slice_from w7.heap.size 0 4096 4096 (512 * k) ((k : Int) * 512) (by omega) (by omega) (by omega) (by decide) (by decide) W
                    rwa [Nat.zero_add] at this
                  have D1 := Lib.hid (show W.drew.cell? ⟨w7.heap.size + 1, 0, none⟩ = some (.slice (some ⟨w7.heap.size, 0, none⟩) 4096 4096) ∧ W.drew.cell? ⟨w.heap.size, 0, none⟩ = some (.int .u64 st) from ⟨b3.cell, b1.cell⟩)
                  have BB5 := Lib.hid (show W.drew.heap[w7.heap.size]? = _ from b5)
                  have BX := Lib.hid (And.intro (And.intro b1 b2) (And.intro b3 b4))
                  have HB := Lib.hid hB
                  have HSS := Lib.hid hss
                  have HSN := Lib.hid hsn
                  have HPS := Lib.hid hPs
                  have HP1 := Lib.hid hP1
                  clear hP hPs hss hsn b1 b2 b3 b4 b5 hB hlt hP1
                  gi_wp2
                  refine wpIn_strict (round_held_drew (S := (fun w' => w'.cell? ⟨w7.heap.size + 1, 0, none⟩ = some (.slice (some ⟨w7.heap.size, 0, none⟩) 4096 4096) ∧ w'.cell? ⟨w.heap.size, 0, none⟩ = some (.int .u64 st))) (by kernel_rfl) (by kernel_rfl) strict_out ?_ (fun hHeld0 => ?_))
                  · (try dsimp only)
                    first | with_reducible exact D1.out | with_reducible exact D3.out | with_reducible exact D2.out
                  refine takeN (v := ?_) 0 rfl (by kernel_rfl) (by kernel_rfl) (by kernel_rfl) (fun _ _ _ h => h) (by rfl) ?_ hHeld0 ?_
                  rotate_left
                  · intro w hSw; (try dsimp only at hSw); go_simp; with_reducible rfl
                  try simp only [Act.put, List.setIfInBounds_toArray, List.set_cons_zero, List.set_cons_succ]
                  refine takeN (v := ?_) 1 rfl (by kernel_rfl) (by kernel_rfl) (by kernel_rfl) (fun _ _ _ h => h) (by rfl) ?_ hHeld0 ?_
                  rotate_left
                  · intro w hSw; (try dsimp only at hSw); go_simp; with_reducible rfl
                  try simp only [Act.put, List.setIfInBounds_toArray, List.set_cons_zero, List.set_cons_succ]
                  refine takeN (v := ?_) 2 rfl (by kernel_rfl) (by kernel_rfl) (by kernel_rfl) (fun _ _ _ h => h) (by rfl) ?_ hHeld0 ?_
                  rotate_left
                  · intro w hSw; (try dsimp only at hSw); go_simp; with_reducible rfl
                  try simp only [Act.put, List.setIfInBounds_toArray, List.set_cons_zero, List.set_cons_succ]
                  refine takeN (v := ?_) 3 rfl (by kernel_rfl) (by kernel_rfl) (by kernel_rfl) (fun _ _ _ h => h) (by rfl) ?_ hHeld0 ?_
                  rotate_left
                  · intro w hSw; (try dsimp only at hSw); go_simp; with_reducible rfl
                  try simp only [Act.put, List.setIfInBounds_toArray, List.set_cons_zero, List.set_cons_succ]
                  refine wpAnyH_ready (rs := [4]) (by kernel_rfl) (by simp) ?_
                  refine readyN rfl (fun K hK => ?_) ?_
                  · -- operation 4
                    go_simp
                    first
                      | (go_at_call 50; with_reducible refine (uint_w (.slice none 0 0) ByteArray.empty st (by omega) s1 _ (BS.nil _) (by decide)).mono ?_; rintro e w1 ⟨v1, rfl, ho, hb⟩; rw [ByteArray.empty_append] at ho
                         obtain ⟨a2, c2, rfl, _, _⟩ := ho.bs.len2 (be8_size st)
                         have D2 := Lib.hid (show w1.cell? ⟨w7.heap.size + 1, 0, none⟩ = some (.slice (some ⟨w7.heap.size, 0, none⟩) 4096 4096) ∧ w1.cell? ⟨w.heap.size, 0, none⟩ = some (.int .u64 st) from ⟨(Keep.ofBelow hb (fun _ => False)).cell D1.out.1 (fun h => h), (Keep.ofBelow hb (fun _ => False)).cell D1.out.2 (fun h => h)⟩)
                         obtain ⟨w2, hcp, hr2, hk2⟩ := copy_n w1 w7.heap.size (512 * k) (4096 - 512 * k) (4096 - 512 * k) 8 P (be8 st) a2 c2 (be8_size st) (by omega) ((Keep.ofBelow hb (fun _ => False)).blk BB5.out (fun h => h)) ho.bs (by rw [HPS.out]; omega) 3
                         have D3 := Lib.hid (show w2.cell? ⟨w7.heap.size + 1, 0, none⟩ = some (.slice (some ⟨w7.heap.size, 0, none⟩) 4096 4096) ∧ w2.cell? ⟨w.heap.size, 0, none⟩ = some (.int .u64 st) from ⟨hk2.cell D2.out.1 (fun e => by simp at e), hk2.cell D2.out.2 (fun e => by simp at e; omega)⟩)
                         have HCP := Lib.hid hcp
                         have R2 := Lib.hid hr2
                         have Q2 := Lib.hid ((Keep.ofBelow hb (fun i => i = w7.heap.size)).trans hk2 (fun i hi => .inl hi))
                         clear ho hb hcp hr2 hk2)
                      | (refine wp_copy_run _ _ 28 28 (v := .slice (some ⟨w7.heap.size, 512 * k, none⟩) (4096 - 512 * k) (4096 - 512 * k)) (y := .slice a2 8 c2) rfl rfl rfl (by with_reducible exact HCP.out) ?_)
                    go_wp2_with fail
                    refine hK.out _ _ ?_ (fun hHeld1 => ?_)
                    · (try dsimp only)
                      first | with_reducible exact D1.out | with_reducible exact D3.out | with_reducible exact D2.out
                    clear hK K hHeld0
                    try simp only [Act.put, List.setIfInBounds_toArray, List.set_cons_zero, List.set_cons_succ]
                    refine wpAnyH_ready (rs := [5]) (by kernel_rfl) (by simp) ?_
                    refine readyN rfl (fun K hK => ?_) ?_
                    · -- operation 5
                      first
                        | (go_at_call 50; with_reducible refine (uint_w (.slice none 0 0) ByteArray.empty st (by omega) s1 _ (BS.nil _) (by decide)).mono ?_; rintro e w1 ⟨v1, rfl, ho, hb⟩; rw [ByteArray.empty_append] at ho
                           obtain ⟨a2, c2, rfl, _, _⟩ := ho.bs.len2 (be8_size st)
                           have D2 := Lib.hid (show w1.cell? ⟨w7.heap.size + 1, 0, none⟩ = some (.slice (some ⟨w7.heap.size, 0, none⟩) 4096 4096) ∧ w1.cell? ⟨w.heap.size, 0, none⟩ = some (.int .u64 st) from ⟨(Keep.ofBelow hb (fun _ => False)).cell D1.out.1 (fun h => h), (Keep.ofBelow hb (fun _ => False)).cell D1.out.2 (fun h => h)⟩)
                           obtain ⟨w2, hcp, hr2, hk2⟩ := copy_n w1 w7.heap.size (512 * k) (4096 - 512 * k) (4096 - 512 * k) 8 P (be8 st) a2 c2 (be8_size st) (by omega) ((Keep.ofBelow hb (fun _ => False)).blk BB5.out (fun h => h)) ho.bs (by rw [HPS.out]; omega) 3
                           have D3 := Lib.hid (show w2.cell? ⟨w7.heap.size + 1, 0, none⟩ = some (.slice (some ⟨w7.heap.size, 0, none⟩) 4096 4096) ∧ w2.cell? ⟨w.heap.size, 0, none⟩ = some (.int .u64 st) from ⟨hk2.cell D2.out.1 (fun e => by simp at e), hk2.cell D2.out.2 (fun e => by simp at e; omega)⟩)
                           have HCP := Lib.hid hcp
                           have R2 := Lib.hid hr2
                           have Q2 := Lib.hid ((Keep.ofBelow hb (fun i => i = w7.heap.size)).trans hk2 (fun i hi => .inl hi))
                           clear ho hb hcp hr2 hk2)
                        | (refine wp_copy_run _ _ 28 28 (v := .slice (some ⟨w7.heap.size, 512 * k, none⟩) (4096 - 512 * k) (4096 - 512 * k)) (y := .slice a2 8 c2) rfl rfl rfl (by with_reducible exact HCP.out) ?_)
                      refine hK.out _ _ ?_ (fun hHeld2 => ?_)
                      · (try dsimp only)
                        first | with_reducible exact D1.out | with_reducible exact D3.out | with_reducible exact D2.out
                      clear hK K hHeld1
                      try simp only [Act.put, List.setIfInBounds_toArray, List.set_cons_zero, List.set_cons_succ]
                      refine wpAnyH_done (by kernel_rfl) ?_ _
                      dsimp only
                      have i1 := (Keep.refl (fun i => i = w7.heap.size) W).drew.trans Q2.out (fun i hi => .inl hi)
                      have X1 := Lib.hid (And.intro (And.intro (i1.blk BX.out.1.1 (fun e => by omega)) (i1.blk BX.out.1.2 (fun e => by omega))) (And.intro (i1.blk BX.out.2.1 (fun e => by omega)) (i1.blk BX.out.2.2 (fun e => by omega))))
                      have K1 := Lib.hid i1
                      have R1 := Lib.hid (show w2.drew.heap[w7.heap.size]? = some (.cells (Lib.strCells P1).toArray 5 (0, 0)) by rw [HP1.out]; exact R2.out)
                      have E1 := Lib.hid (show w2.drew.cell? ⟨w7.heap.size + 1, 0, none⟩ = some (.slice (some ⟨w7.heap.size, 0, none⟩) 4096 4096) ∧ w2.drew.cell? ⟨w.heap.size + 2, 0, none⟩ = some (.slice (some ⟨w.heap.size + 1, 0, none⟩) 4032 4032) from ⟨blk_cell X1.out.2.1 0, blk_cell X1.out.1.2 0⟩)
                      have e13 : ∀ W : World, (Instr.slice 28 (.slice (some ⟨w7.heap.size, 0, none⟩) 4096 4096) (some (.int .i64 ((k : Int) * 512 + 8))) none none).run Try.prog W = .ok (.slice (some ⟨w7.heap.size, 512 * k + 8, none⟩) (4088 - 512 * k) (4088 - 512 * k)) W := fun W => by
                        have := slice_from w7.heap.size 0 4096 4096 (512 * k + 8) ((k : Int) * 512 + 8) (by omega) (by omega) (by omega) (by decide) (by decide) W
                        rwa [Nat.zero_add, show 4096 - (512 * k + 8) = 4088 - 512 * k by omega] at this
                      have e14 : ∀ W : World, (Instr.slice 28 (.slice (some ⟨w.heap.size + 1, 0, none⟩) 4032 4032) (some (.int .i64 ((k : Int) * 504))) (some (.int .i64 ((k : Int) * 504 + 504))) none).run Try.prog W = .ok (.slice (some ⟨w.heap.size + 1, 504 * k, none⟩) 504 (4032 - 504 * k)) W := fun W => by
                        have := slice_part (w.heap.size + 1) 0 4032 4032 (504 * k) (504 * k + 504) ((k : Int) * 504) ((k : Int) * 504 + 504) (by omega) (by omega) (by omega) (by omega) (by omega) (by decide) W
                        rwa [Nat.zero_add, show 504 * k + 504 - 504 * k = 504 by omega] at this
                      have hbs : BS w2.drew (.slice (some ⟨w.heap.size + 1, 504 * k, none⟩) 504 (4032 - 504 * k)) (inn.extract (504 * k) (504 * k + 504)) := by
                        have h1 := (Own.of_blk (base := 0) (show w2.drew.heap[w.heap.size + 1]? = _ from X1.out.2.2) (Nat.zero_le _) (by rw [HISZ.out]; decide)).bs
                        have h2 := h1.cut (a' := some ⟨w.heap.size + 1, 504 * k, none⟩) (c' := 4032 - 504 * k) (504 * k) (504 * k + 504) (by omega) (by rw [HISZ.out]; omega) (fun _ => by rw [Option.map_some, Go.WideShapes.add_plain, Nat.zero_add]) (by omega) (by unfold maxLen; omega) (fun h => by cases h)
                        rwa [show 504 * k + 504 - 504 * k = 504 by omega] at h2
                      have hxs : (inn.extract (504 * k) (504 * k + 504)).size = 504 := by rw [ByteArray.size_extract, HISZ.out]; omega
                      obtain ⟨w3, hcp, hr3, hk3⟩ := copy_n w2.drew w7.heap.size (512 * k + 8) (4088 - 512 * k) (4088 - 512 * k) 504 P1 (inn.extract (504 * k) (504 * k + 504)) (some ⟨w.heap.size + 1, 504 * k, none⟩) (4032 - 504 * k) hxs (by omega) R1.out hbs (by rw [HSS.out.1]; omega) 3
                      have hwr1 : IntKind.i64.wrap ((k : Int) * 512 + 8) = (k : Int) * 512 + 8 := by rw [IntKind.wrap_i64]; omega
                      have hwr2 : IntKind.i64.wrap ((k : Int) * 504 + 504) = (k : Int) * 504 + 504 := by rw [IntKind.wrap_i64]; omega
                      have HCP3 := Lib.hid hcp
                      have R3 := Lib.hid hr3
                      have K3 := Lib.hid (K1.out.drew.trans hk3 (fun i hi => .inl hi))
                      have E2 := Lib.hid (show w3.cell? ⟨w7.heap.size + 1, 0, none⟩ = some (.slice (some ⟨w7.heap.size, 0, none⟩) 4096 4096) ∧ w3.cell? ⟨w.heap.size + 2, 0, none⟩ = some (.slice (some ⟨w.heap.size + 1, 0, none⟩) 4032 4032) from ⟨hk3.cell E1.out.1 (fun e => by simp at e), hk3.cell E1.out.2 (fun e => by simp at e; omega)⟩)
                      clear hcp hr3 hk3 hbs hxs i1 e12 D1 D2 D3 R2 Q2 HCP
                      gi_wp2
                      refine wpIn_strict (round_held_drew (S := (fun w' => w'.cell? ⟨w7.heap.size + 1, 0, none⟩ = some (.slice (some ⟨w7.heap.size, 0, none⟩) 4096 4096) ∧ w'.cell? ⟨w.heap.size + 2, 0, none⟩ = some (.slice (some ⟨w.heap.size + 1, 0, none⟩) 4032 4032))) (by kernel_rfl) (by kernel_rfl) strict_out ?_ (fun hHeld0 => ?_))
                      · (try dsimp only)
                        first | with_reducible exact E1.out | with_reducible exact E2.out
                      refine takeN (v := ?_) 0 rfl (by kernel_rfl) (by kernel_rfl) (by kernel_rfl) (fun _ _ _ h => h) (by rfl) ?_ hHeld0 ?_
                      rotate_left
                      · intro w hSw; (try dsimp only at hSw); go_simp; with_reducible rfl
                      try simp only [Act.put, List.setIfInBounds_toArray, List.set_cons_zero, List.set_cons_succ]
                      refine takeN (v := ?_) 1 rfl (by kernel_rfl) (by kernel_rfl) (by kernel_rfl) (fun _ _ _ h => h) (by rfl) ?_ hHeld0 ?_
                      rotate_left
                      · intro w hSw; (try dsimp only at hSw); go_simp; with_reducible rfl
                      try simp only [Act.put, List.setIfInBounds_toArray, List.set_cons_zero, List.set_cons_succ]
                      refine takeN (v := ?_) 2 rfl (by kernel_rfl) (by kernel_rfl) (by kernel_rfl) (fun _ _ _ h => h) (by rfl) ?_ hHeld0 ?_
                      rotate_left
                      · intro w hSw; (try dsimp only at hSw); go_simp; with_reducible rfl
                      try simp only [Act.put, List.setIfInBounds_toArray, List.set_cons_zero, List.set_cons_succ]
                      refine takeN (v := ?_) 3 rfl (by kernel_rfl) (by kernel_rfl) (by kernel_rfl) (fun _ _ _ h => h) (by rfl) ?_ hHeld0 ?_
                      rotate_left
                      · intro w hSw; (try dsimp only at hSw); go_simp; with_reducible rfl
                      try simp only [Act.put, List.setIfInBounds_toArray, List.set_cons_zero, List.set_cons_succ]
                      refine takeN (v := ?_) 4 rfl (by kernel_rfl) (by kernel_rfl) (by kernel_rfl) (fun _ _ _ h => h) (by rfl) ?_ hHeld0 ?_
                      rotate_left
                      · intro w hSw; (try dsimp only at hSw); go_simp; with_reducible rfl
                      try simp only [Act.put, List.setIfInBounds_toArray, List.set_cons_zero, List.set_cons_succ]
                      refine takeN (v := ?_) 5 rfl (by kernel_rfl) (by kernel_rfl) (by kernel_rfl) (fun _ _ _ h => h) (by rfl) ?_ hHeld0 ?_
                      rotate_left
                      · intro w hSw; (try dsimp only at hSw); go_simp; with_reducible rfl
                      try simp only [Act.put, List.setIfInBounds_toArray, List.set_cons_zero, List.set_cons_succ]
                      refine takeN (v := ?_) 6 rfl (by kernel_rfl) (by kernel_rfl) (by kernel_rfl) (fun _ _ _ h => h) (by rfl) ?_ hHeld0 ?_
                      rotate_left
                      · intro w hSw; (try dsimp only at hSw); go_simp; with_reducible rfl
                      try simp only [Act.put, List.setIfInBounds_toArray, List.set_cons_zero, List.set_cons_succ]
                      refine takeN (v := ?_) 7 rfl (by kernel_rfl) (by kernel_rfl) (by kernel_rfl) (fun _ _ _ h => h) (by rfl) ?_ hHeld0 ?_
                      rotate_left
                      · intro w hSw; (try dsimp only at hSw); go_simp; with_reducible rfl
                      try simp only [Act.put, List.setIfInBounds_toArray, List.set_cons_zero, List.set_cons_succ]
                      refine takeN (v := ?_) 8 rfl (by kernel_rfl) (by kernel_rfl) (by kernel_rfl) (fun _ _ _ h => h) (by rfl) ?_ hHeld0 ?_
                      rotate_left
                      · intro w hSw; (try dsimp only at hSw); go_simp; with_reducible rfl
                      try simp only [Act.put, List.setIfInBounds_toArray, List.set_cons_zero, List.set_cons_succ]
                      refine wpAnyH_ready (rs := [9]) (by kernel_rfl) (by simp) ?_
                      refine readyN rfl (fun K hK => ?_) ?_
                      · -- operation 9
                        (refine wp_copy_run _ _ 28 28 (v := .slice (some ⟨w7.heap.size, 512 * k + 8, none⟩) (4088 - 512 * k) (4088 - 512 * k)) (y := .slice (some ⟨w.heap.size + 1, 504 * k, none⟩) 504 (4032 - 504 * k)) rfl rfl rfl (by with_reducible exact HCP3.out) ?_)
                        refine hK.out _ _ ?_ (fun hHeld1 => ?_)
                        · (try dsimp only)
                          first | with_reducible exact E1.out | with_reducible exact E2.out
                        clear hK K hHeld0
                        try simp only [Act.put, List.setIfInBounds_toArray, List.set_cons_zero, List.set_cons_succ]
                        refine wpAnyH_done (by kernel_rfl) ?_ _
                        dsimp only
                        gi_wp2
                        have hk3 := K3.out
                        have hcl : ∀ k o, k = w7.heap.size → W.heap[k]? = some o → o.isCells = true := fun k o hk ho => by
                          subst hk
                          rw [show W.heap[w7.heap.size]? = _ from BB5.out] at ho
                          cases ho; rfl
                        refine ⟨(others_keep hk3 hcl).from _, trivial, ⟨⟨⟨⟨hk3.blk BX.out.1.1 (fun e => by omega), hk3.blk BX.out.1.2 (fun e => by omega)⟩, hk3.blk BX.out.2.1 (fun e => by omega)⟩, hk3.blk BX.out.2.2 (fun e => by omega)⟩, ?_⟩, HB.out.trans (hk3.below (B := w.heap.size) hwW (fun i hi => by subst hi; omega))⟩
                        rw [HSN.out]
                        exact R3.out
                      exact AllReadyH.nil
                    exact AllReadyH.nil
                  exact AllReadyH.nil
                case done =>
                  rintro D ys W hD rfl ⟨⟨⟨⟨⟨b1, b2⟩, b3⟩, b4⟩, b5⟩, hB⟩ hK
                  have k3 := b3.cell
                  have HK := Lib.hid hK
                  have HB5 := Lib.hid b5
                  have HB := Lib.hid hB
                  clear b1 b2 b3 b4 b5 hB hK
                  gi_wp2
                  refine ⟨by simp, .inl ⟨_, _, rfl, run_takeDeferred HK.out, ?_⟩⟩
                  refine ⟨_, (by simp [results, Try.results18, go_sem]; rfl), ?_⟩
                  have h5 : (W.putObj D (Obj.deferred none)).heap[w7.heap.size]? = _ := ((grownBy_putObj' W D (Obj.deferred none)).block _ (blk_lt HB5.out) (fun e => by simp only [Option.some.injEq] at e; omega)).trans HB5.out
                  have ho := Own.of_blk (base := w.heap.size) h5 (by omega) (by rw [layF_size st inn HISZ.out]; decide)
                  rw [layF_size st inn HISZ.out, layF_all, HINN.out] at ho
                  exact ⟨_, rfl, ho, HB.out.trans (belowK_b (w := w) (Nat.le_refl _) W D _ _ (by omega) HK.out rfl rfl)⟩
                case stop =>
                  rintro D c pre W _ _ h _
                  exact h.elim
              exact AllReadyH.nil
            exact AllReadyH.nil
          exact AllReadyH.nil
        exact AllReadyH.nil
      exact AllReadyH.nil
    exact AllReadyH.nil
  exact AllReadyH.nil
theorem fput_zero (at_ kind : Int) (v : Value) (b : ByteArray) (a0 : 0 ≤ at_) (a1 : at_ < 4096) (w : World) (hS : BS w v b) :
    Calls Try.prog 18 #[.int .i64 at_, .int .u8 kind, .int .u64 0, v] w fun e w' => e = .returned (.tuple #[.slice none 0 0, .int .i64 1]) ∧ Below w.heap.size w w' := by
  obtain ⟨a, c, rfl⟩ := hS.len
  have i1 : ¬ at_ < 0 := by omega
  have i2 : ¬ at_ ≥ 4096 := by omega
  clear hS
  refine (callsIn_wide (n := 9)).1 ?_
  refine callsIn_of_wp_marks Try.func18 rfl trivial ?_ rfl
  simp only [Try.ntmps18, List.size_toArray, List.length_cons, List.length_nil, Nat.reduceAdd, Nat.reduceSub, Array.replicate_succ, Array.replicate_zero, List.push_toArray, List.append_toArray, List.nil_append, List.cons_append]
  gi_wp2
  refine ⟨_, (by simp [results, Try.results18, go_sem]; rfl), ?_⟩
  exact ⟨rfl, (Below.refl _ _).alloc (Nat.le_refl _) _⟩
end Go.Proofs.Ytlmngghkhnnaeaa
