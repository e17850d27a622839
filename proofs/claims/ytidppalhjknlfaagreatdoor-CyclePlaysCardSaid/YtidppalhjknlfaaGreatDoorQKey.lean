/- The walks of kv.big, kv.Key, kv.With. -/
import Derived.Test.YtidppalhjknlfaaGreatDoorQKv2
import Derived.Test.YtidppalhjknlfaaGreatDoorQMMem
import Derived.Lib.SliceRun
namespace Go.Proofs.YtidppalhjknlfaaGreatDoor
set_option linter.unusedVariables false
set_option linter.unusedSimpArgs false
open Go.RowKit
set_option maxRecDepth 100000
theorem iByte : (Tryz.prog.info? 5).map (fun i => (i.zero, i.size, i.bytes)) = some (some (.int .u8 0), 1, 1) := by kernel_rfl
/-- a number's first j bytes, the highest first -/
def be (n : Int) : Nat → ByteArray
  | 0 => ByteArray.empty
  | j + 1 => be n j ++ bOne (n / 2 ^ (56 - 8 * j) % 256)
def be8 (n : Int) : ByteArray := be n 8
theorem be_size (n : Int) : ∀ j, (be n j).size = j
  | 0 => rfl
  | j + 1 => by show (be n j ++ bOne _).size = j + 1; rw [size_append, be_size n j, size_one]
theorem big_any (B : Nat) (v : Value) (s : ByteArray) (n : Int) (h0 : 0 ≤ n) (h1 : n ≤ 18446744073709551615) (w : World) (hO : Own 5 w B v s) (hB : B ≤ w.heap.size) (hs : s.size ≤ 70368744177664) :
    Calls Tryz.prog 52 #[v, .int .u64 n] w fun e w' => ∃ v', e = .returned v' ∧ Own 5 w' B v' (s ++ be8 n) ∧ Grows w w' v v' := by
  have HO := Lib.hid hO
  clear hO
  go_enter Tryz.func52, Tryz.ntmps52
  go_wp2
  go_loopw [0, 5] (fun b i wr => ∃ j : Nat, j ≤ 8 ∧ i = .int .i64 (56 - 8 * (j : Int)) ∧ Hid (Own 5 wr B b (s ++ be n j)) ∧ Hid (Grows w wr v b)) (fun _ i _ => (64 + intOf i).toNat)
  case atStart => exact ⟨0, by omega, rfl, Lib.hid (by rw [show s ++ be n 0 = s from append_empty s]; exact HO.out), Lib.hid (Grows.refl _ _)⟩
  case round =>
    obtain ⟨j, hj, rfl, HO1, HG1⟩ := hrel
    by_cases hlt : j < 8
    · have hsz : (s ++ be n j).size + 1 ≤ 140737488355328 := by rw [size_append, be_size]; omega
      have hB1 : B ≤ wr.heap.size := Nat.le_trans hB HG1.out.keep.size
      have hr0 : 0 ≤ n / 2 ^ (56 - 8 * j) % 256 := Int.emod_nonneg _ (by decide)
      have hr1 : n / 2 ^ (56 - 8 * j) % 256 < 256 := Int.emod_lt_of_pos _ (by decide)
      go_wp2_with (at_builtin; go_must (refine wp_app_byte B rfl _ _ 76 5 rfl uBytes iByte u0 (s ++ be n j) _ rfl rfl HO1.out hB1 hsz hr0 hr1 ?_); intro v1 w1 ho1 hg1; have HO2 := Lib.hid ho1; have HG2 := Lib.hid (HG1.out.trans hg1); clear ho1 hg1)
      go_roundw
      case rel => exact ⟨j + 1, by omega, by go_num, by
        have := HO2.out
        rw [show s ++ be n (j + 1) = s ++ be n j ++ bOne (n / 2 ^ (56 - 8 * j) % 256) from (ByteArray.append_assoc).symm]
        exact Lib.hid this, HG2⟩
      case measure => simp [intOf]; omega
    · have hje : j = 8 := by omega
      subst hje
      go_wp2
      go_ret
      exact ⟨_, rfl, HO1.out, HG1.out⟩
/-- v is a slice of 64-bit numbers that reads as ns -/
def US (w : World) (v : Value) (ns : List Int) : Prop :=
  ∃ a cap, v = .slice a ns.length cap ∧ (∀ i, i < ns.length → 0 ≤ ns.getD i 0 ∧ ns.getD i 0 ≤ 18446744073709551615) ∧
    (ns = [] ∨ ∃ b off, a = some ⟨b, off, none⟩ ∧ ∀ i, i < ns.length → w.cell? ⟨b, off + i, none⟩ = some (.int .u64 (ns.getD i 0)))
def keyS (kind : Int) (ns : List Int) : ByteArray := ns.foldl (fun s n => s ++ be8 n) (bOne kind)
theorem keyS_snoc (kind : Int) (ns : List Int) (n : Int) : keyS kind (ns ++ [n]) = keyS kind ns ++ be8 n := by simp [keyS, List.foldl_append]
theorem keyS_size (kind : Int) (ns : List Int) : (keyS kind ns).size = 1 + 8 * ns.length := by
  have h : ∀ (ns : List Int) (s : ByteArray), (ns.foldl (fun s n => s ++ be8 n) s).size = s.size + 8 * ns.length := by
    intro ns
    induction ns with
    | nil => intro s; simp
    | cons n ns ih => intro s; simp only [List.foldl_cons, List.length_cons]; rw [ih, size_append, show (be8 n).size = 8 from be_size n 8]; omega
  rw [keyS, h, size_one]
theorem take_snoc_getD (ns : List Int) (j : Nat) (h : j < ns.length) : ns.take (j + 1) = ns.take j ++ [ns.getD j 0] := by
  rw [List.take_succ_eq_append_getElem h, List.getD_eq_getElem?_getD, List.getElem?_eq_getElem h]; rfl
theorem key_any (kind : Int) (k0 : 0 ≤ kind) (k1 : kind < 256) (v : Value) (ns : List Int) (w : World) (hU : US w v ns) (hl : ns.length ≤ 1000000) :
    Calls Tryz.prog 28 #[.int .u8 kind, v] w fun e w' => ∃ v', e = .returned v' ∧ Own 5 w' w.heap.size v' (keyS kind ns) ∧ Below w.heap.size w w' := by
  obtain ⟨a, cap, rfl, hr, hx⟩ := hU
  have HR := Lib.hid hr
  have HX := Lib.hid hx
  have HL0 := Lib.hid (Own.lit 5 w kind k0 k1)
  clear hr hx
  go_enter Tryz.func28, Tryz.ntmps28
  go_wp2
  go_loopw [5, 12] (fun b i wr => ∃ j : Nat, j ≤ ns.length ∧ i = .int .i64 j ∧ Hid (Own 5 wr w.heap.size b (keyS kind (ns.take j))) ∧ Hid (Below w.heap.size w wr)) (fun _ i _ => ns.length - (intOf i).toNat)
  case atStart => exact ⟨0, by omega, rfl, HL0, Lib.hid ((Below.refl _ _).alloc (Nat.le_refl _) _)⟩
  case round =>
    obtain ⟨j, hj, rfl, HO1, HB1⟩ := hrel
    by_cases hlt : j < ns.length
    · rcases HX.out with h0 | ⟨bb, off, rfl, hcell⟩
      · rw [h0] at hlt; simp at hlt
      · have hc := HB1.out.cell (p := ⟨bb, off + j, none⟩) (World.block_lt_of_cell? w ⟨bb, off + j, none⟩ (hcell j hlt))
        rw [hcell j hlt] at hc
        obtain ⟨r0, r1⟩ := HR.out j hlt
        have hts := Lib.hid (take_snoc_getD ns j hlt)
        have hsz : (keyS kind (ns.take j)).size ≤ 70368744177664 := by rw [keyS_size, List.length_take]; omega
        obtain ⟨x, hxx⟩ : ∃ x, x = ns.getD j 0 := ⟨_, rfl⟩
        rw [← hxx] at hc r0 r1 hts
        have hB1 : w.heap.size ≤ wr.heap.size := HB1.out.size
        clear hcell hxx HX
        go_wp2_with fail
        refine (big_any w.heap.size _ _ x r0 r1 _ HO1.out hB1 hsz).mono ?_
        rintro e w1 ⟨v1, rfl, ho1, hg1⟩
        have HO2 := Lib.hid ho1
        have HB2 := Lib.hid (HB1.out.trans (hg1.below hB1 (fun k hk => (HO1.out.base_le k hk).1)))
        clear ho1 hg1
        go_wp2
        go_roundw
        case rel => exact ⟨j + 1, by omega, by go_num, by have := HO2.out; rw [hts.out, keyS_snoc]; exact Lib.hid this, HB2⟩
        case measure => simp [intOf]; omega
    · have hje : j = ns.length := by omega
      subst hje
      go_wp2
      go_ret
      exact ⟨_, rfl, by have := HO1.out; rwa [List.take_length] at this, HB1.out⟩
end Go.Proofs.YtidppalhjknlfaaGreatDoor
