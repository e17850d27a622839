/- The walks of package disk. -/
import Derived.Test.YtlmngghkhnnaeaaQMMem
import Derived.Test.YtlmngghkhnnaeaaProg
import Derived.Handy
import Derived.LoopTactic
import Derived.Deep.QuietTactic
import Derived.BigQuiet
import Derived.StillTailTactics
import Derived.Lib.SliceRun
import Derived.Deep.OwnRows
import Derived.WalkSpells
namespace Go.Proofs.Ytlmngghkhnnaeaa
open Go.RowKit
set_option maxRecDepth 100000
set_option linter.unusedVariables false
set_option linter.unusedSimpArgs false
theorem uBytes : Try.prog.underlying 28 = some (.slice 5) := by kernel_rfl
theorem uByte : Try.prog.underlying 5 = some (.int .u8) := by kernel_rfl
theorem iByte : (Try.prog.info? 5).map (fun i => (i.zero, i.size, i.bytes)) = some (some (.int .u8 0), 1, 1) := by kernel_rfl
theorem cloneb_any (v : Value) (s : ByteArray) (w : World) (hv : BS w v s) (hl : s.size ≤ 70368744177664) :
    Calls Try.prog 35 #[v] w fun e w' => ∃ v', e = .returned v' ∧ Own 5 w' w.heap.size v' s ∧ Below w.heap.size w w' := by
  have hv' := hv
  obtain ⟨a, cap, rfl, hc, hm, hn, hx⟩ := hv
  have hnil := fun w => Lib.run_eql_slice_nil (P := Try.prog) w 28 5 a s.size cap 0 0 uBytes
  cases a with
  | none =>
    obtain rfl : cap = 0 := hn rfl
    have hs : s = ByteArray.empty := by rcases hx with h | ⟨b, o, h, _⟩; exact h; cases h
    subst hs
    simp only [Option.isNone_none, show ByteArray.empty.size = 0 from rfl] at hnil
    clear hv' hx hn
    show Calls Try.prog 35 #[.slice none 0 0] w _
    go_enter Try.func35, Try.ntmps35
    go_wp2
    go_ret
    exact ⟨_, rfl, Own.nil _ _ _, Below.refl _ _⟩
  | some x =>
    simp only [Option.isNone_some] at hnil
    have HV := Lib.hid hv'
    have HL0 := Lib.hid (Own.litNone 5 w)
    clear hx hv' hn
    go_enter Try.func35, Try.ntmps35
    go_wp2_with (at_builtin; go_must (refine wp_app_bs w.heap.size rfl _ _ 28 5 rfl uBytes iByte (.slice (some ⟨w.heap.size, 0, none⟩) 0 0) (.slice (some x) s.size cap) ByteArray.empty s rfl rfl HL0.out (HV.out.alloc _) (by simp) (by simp; omega) ?_); intro v1 w1 ho1 hg1; have HO2 := Lib.hid ho1; have HG2 := Lib.hid hg1; clear ho1 hg1)
    go_ret
    refine ⟨_, rfl, by have := HO2.out; simpa using this, ((Below.refl _ _).alloc (Nat.le_refl _) _).trans (HG2.out.below (by simp) (fun k hk => (HL0.out.base_le k hk).1))⟩

/-- n bytes 0 -/
def zp (n : Nat) : ByteArray := ⟨Array.replicate n 0⟩
theorem zp_size (n : Nat) : (zp n).size = n := by unfold zp; show (Array.replicate n (0 : UInt8)).size = n; simp
theorem Own.zeros (e : TypeId) (w : World) (n : Nat) (hn : n ≤ maxLen) : Own e (w.alloc (.cells (madeCells #[.int .u8 0] n) e)) w.heap.size (.slice (some ⟨w.heap.size, 0, none⟩) n n) (zp n) := by
  have hs : (madeCells #[.int .u8 0] n).toList = Lib.strCells (zp n) := by
    refine List.ext_getElem? fun i => ?_
    rcases Nat.lt_or_ge i n with h | h
    · rw [strCells_get _ _ (by rw [zp_size]; exact h)]
      have e1 : (zp n).data.toList.getD i 0 = 0 := by
        rw [List.getD_eq_getElem?_getD]; unfold zp; simp [h]
      rw [e1, Array.getElem?_toList]
      unfold madeCells
      simp [h, Nat.mod_one]
    · rw [List.getElem?_eq_none (by simp [size_madeCells]; exact h), List.getElem?_eq_none (by rw [Lib.strCells, List.length_map, data_len, zp_size]; exact h)]
  have hl : (Lib.strCells (zp n)).length = n := by rw [Lib.strCells, List.length_map, data_len, zp_size]
  refine ⟨by rw [hl, zp_size, Nat.mul_one], .inr ⟨_, n, _, by rw [zp_size], Nat.le_refl _, blk_new _ _, by rw [zp_size]; exact Nat.le_refl _, hn, by rw [size_madeCells, Nat.mul_one], ?_⟩⟩
  rw [hs, zp_size, Nat.mul_one, List.take_of_length_le (by omega)]
/-! ### a page -/
def PG (B : Nat) (w : World) (v : Value) : Option ByteArray → Prop
  | none => v = .slice none 0 0
  | some s => Own 5 w B v s ∧ s.size = 4096
theorem PG.keep {B : Nat} {F : Nat → Prop} {w w' : World} {v : Value} {o : Option ByteArray} (h : PG B w v o) (hk : Keep F w w') (hF : ∀ i c z, w.heap[i]? = some (.cells c 5 z) → ¬ F i) : PG B w' v o := by
  cases o with
  | none => exact h
  | some s =>
    refine ⟨h.1.keep hk (fun k hk' => ?_), h.2⟩
    rcases h.1.2 with ⟨rfl, _⟩ | ⟨g, cap, cur, rfl, _, hg, _⟩
    · cases hk'
    · cases hk'; exact hF _ _ _ hg
theorem PG.below {B : Nat} {w w' : World} {v : Value} {o : Option ByteArray} (h : PG B w v o) (hb : Below w.heap.size w w') : PG B w' v o := h.keep (Keep.ofBelow hb (fun _ => False)) (fun _ _ _ _ h => h)
def pgOf (o : Option ByteArray) : ByteArray := o.getD (zp 4096)
theorem page_any {B : Nat} (v : Value) (o : Option ByteArray) (w : World) (h : PG B w v o) :
    Calls Try.prog 28 #[v] w fun e w' => ∃ v', e = .returned v' ∧ Own 5 w' w.heap.size v' (pgOf o) ∧ Below w.heap.size w w' := by
  cases o with
  | none =>
    cases h
    have hnil := fun w => Lib.run_eql_slice_nil (P := Try.prog) w 28 5 none 0 0 0 0 uBytes
    simp only [Option.isNone_none] at hnil
    have hmk := run_make_row' (P := Try.prog) 28 5 (.int .u8 0) 1 uBytes iByte rfl .i64 .i64 4096 (by decide) (by decide)
    have HZ := Lib.hid (Own.zeros 5 w 4096 (by decide))
    have HB := Lib.hid ((Below.refl w.heap.size w).alloc (Nat.le_refl _) (.cells (madeCells #[.int .u8 0] 4096) 5))
    rw [show ((4096 : Nat) : Int) = 4096 from rfl] at hmk
    obtain ⟨mc, hmc⟩ : ∃ mc, mc = madeCells #[Value.int .u8 0] 4096 := ⟨_, rfl⟩
    rw [← hmc] at hmk HZ HB
    clear hmc
    go_enter Try.func28, Try.ntmps28
    go_wp2
    go_ret
    exact ⟨_, rfl, HZ.out, HB.out⟩
  | some s =>
    obtain ⟨h1, h2⟩ := h
    have hcon := Lib.hid (cloneb_any v s w h1.bs (by omega))
    have hnn : ∃ x cap, v = .slice (some x) s.size cap := by
      rcases h1.2 with ⟨_, h0⟩ | ⟨g, cap, cur, rfl, _⟩
      · omega
      · exact ⟨_, _, rfl⟩
    obtain ⟨x, cap, rfl⟩ := hnn
    have hnil := fun w => Lib.run_eql_slice_nil (P := Try.prog) w 28 5 (some x) s.size cap 0 0 uBytes
    simp only [Option.isNone_some] at hnil
    clear h1 h2
    go_enter Try.func28, Try.ntmps28
    go_wp2_with fail
    refine hcon.out.mono ?_
    rintro e w1 ⟨v1, rfl, h1, h2⟩
    have H1 := Lib.hid h1
    have H2 := Lib.hid h2
    clear h1 h2 hcon
    go_wp2
    go_ret
    exact ⟨_, rfl, H1.out, H2.out⟩
theorem pgOf_size {B : Nat} {w : World} {v : Value} {o : Option ByteArray} (h : PG B w v o) : (pgOf o).size = 4096 := by
  cases o with
  | none => exact zp_size 4096
  | some s => exact h.2
end Go.Proofs.Ytlmngghkhnnaeaa
