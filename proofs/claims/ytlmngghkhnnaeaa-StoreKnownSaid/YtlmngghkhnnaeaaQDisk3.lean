/- The walks of disk's burns, Size, Dead, Kill, Fuse, New, Waits. -/
import Derived.Test.YtlmngghkhnnaeaaQDisk2
namespace Go.Proofs.Ytlmngghkhnnaeaa
open Go.RowKit
set_option maxRecDepth 100000
set_option linter.unusedVariables false
set_option linter.unusedSimpArgs false
def burnS (S : DS) : DS := { S with fuse := if 0 < S.fuse then S.fuse - 1 else S.fuse, dead := S.dead || S.fuse == 0 }
section
variable {p bl bw : Nat} {ov : Value} {S : DS}
theorem nodup_range : ∀ (n : Nat) (l : List Int), l.Nodup → (∀ x ∈ l, 0 ≤ x ∧ x < n) → l.length ≤ n
  | 0, l, _, hr => by
    cases l with
    | nil => simp
    | cons a l => have := hr a (by simp); omega
  | n + 1, l, hn, hr => by
    by_cases h : (n : Int) ∈ l
    · have h1 := nodup_range n (l.erase n) (hn.erase _) (fun x hx => by
        have h2 := (hn.mem_erase_iff).1 hx
        have := hr x h2.2
        have := h2.1
        omega)
      rw [List.length_erase_of_mem h] at h1
      omega
    · have h1 := nodup_range n l hn (fun x hx => by
        have := hr x hx
        have : x ≠ n := fun e => h (e ▸ hx)
        omega)
      omega
theorem DiskIs.wlen {w : World} (h : DiskIs w p bl bw ov S) : S.W.length ≤ 4096 := by
  have := nodup_range S.L.length (S.W.map (·.1)) h.nodup (by intro x hx; obtain ⟨q, hq, rfl⟩ := List.mem_map.1 hx; exact h.rng q hq)
  have := h.len
  simp at *; omega
theorem keep_set {w : World} (i : Nat) (u : Value) : Keep (fun i => i = p) w (w.setCell ⟨p, i, none⟩ u) := (Keep.refl (fun i => i = p) w).setCell (p := ⟨p, i, none⟩) (.inl rfl) u
theorem burns_any (w : World) (hD : DiskIs w p bl bw ov S) :
    Calls Try.prog 54 #[dV p] w fun e w' => e = .returned (.bool (burnS S).dead) ∧ DiskIs w' p bl bw ov (burnS S) ∧ Keep (fun i => i = p) w w' := by
  have hc3 := hD.c3
  have hc4 := hD.c4
  have hz := hD.fz
  have hfu := hD.fuse
  have HD := Lib.hid hD
  clear hD
  obtain ⟨L, W, fuse, dead, B⟩ := S
  simp only at *
  unfold dV
  by_cases h0 : fuse = 0
  · subst h0
    have eS : burnS ⟨L, W, 0, dead, B⟩ = ⟨L, W, 0, true, B⟩ := by simp [burnS]
    rw [eS]
    have HN := Lib.hid (HD.out.cells (w' := w.setCell ⟨p, 4, none⟩ (.bool true)) ⟨L, W, 0, true, B⟩ rfl rfl rfl hfu (keep_set 4 _) (blk_setCell HD.out.blk 4 (.bool true)))
    go_enter Try.func54, Try.ntmps54
    go_wp2
    go_ret
    exact ⟨rfl, HN.out, keep_set 4 _⟩
  · have i0 : (fuse == 0) = false := beq_eq_false_iff_ne.2 h0
    by_cases h1 : 0 < fuse
    · have eS : burnS ⟨L, W, fuse, dead, B⟩ = ⟨L, W, fuse - 1, dead, B⟩ := by simp [burnS, h0, h1]
      rw [eS]
      have i1 : decide (fuse > 0) = true := decide_eq_true h1
      have HN := Lib.hid (HD.out.cells (w' := w.setCell ⟨p, 3, none⟩ (.int .i64 (fuse - 1))) ⟨L, W, fuse - 1, dead, B⟩ rfl rfl rfl (by simp only; omega) (keep_set 3 _) (blk_setCell HD.out.blk 3 _))
      go_enter Try.func54, Try.ntmps54
      go_wp2
      go_ret
      exact ⟨rfl, HN.out, keep_set 3 _⟩
    · have eS : burnS ⟨L, W, fuse, dead, B⟩ = ⟨L, W, fuse, dead, B⟩ := by simp [burnS, h0, h1]
      rw [eS]
      have i1 : decide (fuse > 0) = false := decide_eq_false h1
      go_enter Try.func54, Try.ntmps54
      go_wp2
      go_ret
      exact ⟨rfl, HD.out, Keep.refl _ _⟩
theorem size_any (w : World) (hD : DiskIs w p bl bw ov S) : Calls Try.prog 44 #[dV p] w fun e w' => e = .returned (.int .i64 S.L.length) ∧ w' = w := by
  have hc0 := hD.c0
  have hl := hD.len
  clear hD
  unfold dV
  go_enter Try.func44, Try.ntmps44
  go_wp2
  go_ret
  exact ⟨rfl, rfl⟩
theorem size_nil (w : World) : Calls Try.prog 44 #[.pointer none] w fun e w' => e = .returned (.int .i64 0) ∧ w' = w := by
  go_enter Try.func44, Try.ntmps44
  go_wp2
  go_ret
  exact ⟨rfl, rfl⟩
theorem dead_any (w : World) (hD : DiskIs w p bl bw ov S) : Calls Try.prog 43 #[dV p] w fun e w' => e = .returned (.bool S.dead) ∧ w' = w := by
  have hc4 := hD.c4
  clear hD
  unfold dV
  obtain ⟨L, W, fuse, dead, B⟩ := S
  simp only at *
  go_enter Try.func43, Try.ntmps43
  go_wp2
  go_ret
  exact ⟨rfl, rfl⟩
theorem dead_nil (w : World) : Calls Try.prog 43 #[.pointer none] w fun e w' => e = .returned (.bool false) ∧ w' = w := by
  go_enter Try.func43, Try.ntmps43
  go_wp2
  go_ret
  exact ⟨rfl, rfl⟩
theorem kill_any (w : World) (hD : DiskIs w p bl bw ov S) : Calls Try.prog 25 #[dV p] w fun e w' => e = .returned (.tuple #[]) ∧ DiskIs w' p bl bw ov { S with dead := true } ∧ Keep (fun i => i = p) w w' := by
  have hz := hD.fz
  have hc4 := hD.c4
  have HN := Lib.hid (hD.cells (w' := w.setCell ⟨p, 4, none⟩ (.bool true)) { S with dead := true } rfl rfl rfl hD.fuse (keep_set 4 _) (blk_setCell hD.blk 4 _))
  clear hD
  unfold dV
  go_enter Try.func25, Try.ntmps25
  go_wp2
  go_end0
  exact ⟨rfl, HN.out, keep_set 4 _⟩
theorem kill_nil (w : World) : Calls Try.prog 25 #[.pointer none] w fun e w' => e = .returned (.tuple #[]) ∧ w' = w := by
  go_enter Try.func25, Try.ntmps25
  go_wp2
  go_end0
  exact ⟨rfl, rfl⟩
def fuseS (S : DS) (n : Int) : DS := if S.dead = true then S else { S with fuse := max n (-1) }
theorem new_no (n : Int) (w : World) (h : n < 1 ∨ 4096 < n) : Calls Try.prog 13 #[.int .i64 n] w fun e w' => e = .returned (.tuple #[.pointer none, .int .i64 1]) ∧ w' = w := by
  have arms : n < 1 ∨ (1 ≤ n ∧ 4096 < n) := by omega
  clear h
  rcases arms with h1 | ⟨h1, h2⟩
  · have i1 : decide (n < 1) = true := decide_eq_true h1
    go_enter Try.func13, Try.ntmps13
    go_wp2
    go_ret2
    exact ⟨rfl, rfl⟩
  · have i1 : decide (n < 1) = false := decide_eq_false (by omega)
    have i2 : decide (n > 4096) = true := decide_eq_true h2
    go_enter Try.func13, Try.ntmps13
    go_wp2
    go_ret2
    exact ⟨rfl, rfl⟩
theorem uPages : Try.prog.underlying 50 = some (.slice 28) := by kernel_rfl
theorem iPages : (Try.prog.info? 28).map (fun i => (i.zero, i.size, i.bytes)) = some (some (.slice none 0 0), 1, 24) := by kernel_rfl
def newS (n : Nat) : DS := ⟨List.replicate n none, [], -1, false, 0⟩
theorem new_ok (n : Nat) (w : World) (h1 : 1 ≤ n) (h2 : n ≤ 4096) : Calls Try.prog 13 #[.int .i64 n] w fun e w' => e = .returned (.tuple #[dV (w.heap.size + 2), .int .i64 0]) ∧ DiskIs w' (w.heap.size + 2) w.heap.size (w.heap.size + 1) (.slice none 0 0) (newS n) ∧ Below w.heap.size w w' := by
  have i1 : decide ((n : Int) < 1) = false := decide_eq_false (by omega)
  have i2 : decide ((n : Int) > 4096) = false := decide_eq_false (by omega)
  have hmk := run_make_row' (P := Try.prog) 50 28 (.slice none 0 0) 24 uPages iPages rfl .i64 .i64 n (by omega) (by omega)
  obtain ⟨mc, hmc⟩ : ∃ mc, mc = madeCells #[Value.slice none 0 0] n := ⟨_, rfl⟩
  rw [← hmc] at hmk
  have HMC := Lib.hid hmc
  clear hmc
  have hmm : ∀ w, (Instr.makeMap 51 none).run Try.prog w = .ok (.map (some w.heap.size)) (w.alloc (.map #[] 0)) := fun w => by kernel_rfl
  unfold dV
  go_enter Try.func13, Try.ntmps13
  go_wp2
  go_ret2
  have hmz : mc.size = n := by rw [HMC.out, size_madeCells]
  refine ⟨rfl, ⟨?_, ⟨mc, ?_, ?_, ?_⟩, ⟨[], ?_, rfl, by simp [newS]⟩, World.ownsRow_nil _ _ _ _, by simp [newS], by simp [newS], by simp [newS], by simp [newS]; omega, by simp [newS]⟩, by go_grown⟩
  · simp only [newS, List.length_replicate]
    exact blk_newAt (by simp) _
  · exact blk_alloc (blk_alloc (blk_new w _) _) _
  · simpa [newS] using hmz
  · intro i o ho
    simp only [newS] at ho
    have hi : i < n := by
      have := (List.getElem?_eq_some_iff.1 ho).1
      simpa using this
    rw [List.getElem?_replicate, if_pos hi] at ho
    cases ho
    refine ⟨.slice none 0 0, ?_, rfl⟩
    rw [HMC.out]
    unfold madeCells
    simp [hi, Nat.mod_one]
  · exact (IMapAt.madeAt (by simp)).alloc _
theorem uInts : Try.prog.underlying 52 = some (.slice 3) := by kernel_rfl
theorem iInt : (Try.prog.info? 3).map (fun i => (i.zero, i.size, i.bytes)) = some (some (.int .i64 0), 1, 8) := by kernel_rfl
end
end Go.Proofs.Ytlmngghkhnnaeaa
