/- The walks of package kv's store in memory: nil, Delete, Commit, Abort, New. -/
import Derived.Test.YtiadoimdohnebaaKv
import Derived.WalkSpells
namespace Go.Proofs.Ytiadoimdohnebaa
set_option linter.unusedVariables false
set_option linter.unusedSimpArgs false
open Go.RowKit
set_option maxRecDepth 100000
theorem get_nil (kv : Value) (w : World) :
    Calls Try.prog 18 #[.pointer none, kv] w fun e w' => e = .returned (.tuple #[.slice none 0 0, .bool false, .int .i64 8]) ∧ w' = w := by
  go_enter Try.func18, Try.ntmps18
  go_wp2
  go_ret3
  exact ⟨rfl, rfl⟩
theorem put_nil (kv vv : Value) (w : World) :
    Calls Try.prog 22 #[.pointer none, kv, vv] w fun e w' => e = .returned (.int .i64 8) ∧ w' = w := by
  go_enter Try.func22, Try.ntmps22
  go_wp2
  go_ret
  exact ⟨rfl, rfl⟩
theorem delete_nil (kv : Value) (w : World) :
    Calls Try.prog 19 #[.pointer none, kv] w fun e w' => e = .returned (.tuple #[.bool false, .int .i64 8]) ∧ w' = w := by
  go_enter Try.func19, Try.ntmps19
  go_wp2
  go_ret2
  exact ⟨rfl, rfl⟩
theorem range_nil (kv vv : Value) (w : World) :
    Calls Try.prog 20 #[.pointer none, kv, vv] w fun e w' => e = .returned (.tuple #[.slice none 0 0, .int .i64 8]) ∧ w' = w := by
  go_enter Try.func20, Try.ntmps20
  go_wp2
  go_ret2
  exact ⟨rfl, rfl⟩
theorem commit_nil (w : World) :
    Calls Try.prog 23 #[.pointer none] w fun e w' => e = .returned (.int .i64 8) ∧ w' = w := by
  go_enter Try.func23, Try.ntmps23
  go_wp2
  go_ret
  exact ⟨rfl, rfl⟩
theorem abort_nil (w : World) :
    Calls Try.prog 21 #[.pointer none] w fun e w' => e = .returned (.tuple #[]) ∧ w' = w := by
  go_enter Try.func21, Try.ntmps21
  go_wp2
  go_end0
  exact ⟨rfl, rfl⟩
theorem delete_any (p : Nat) (room : Int) (b1 b2 : Nat) (now was : AL) (kv : Value) (k : ByteArray) (w : World) (hM : MemIs w p room b1 b2 now was) (hK : BS w kv k) :
    Calls Try.prog 19 #[pV p, kv] w fun e w' => e = .returned (.tuple #[.bool (AL.get k now).isSome, .int .i64 0]) ∧ MemIs w' p room b1 b2 (AL.del k now) was ∧ Keep (fun i => i = b1) w w' := by
  have hc1 : w.cell? ⟨p, 1, none⟩ = some (.map (some b1)) := by rw [blk_cell hM.blk]; rfl
  have conv := fun n : Nat => (hK.drewN n).string (P := Try.prog) 23 5 9 uBytes uByte uStr
  have look := fun n : Nat => MapAt.lookup_ok (P := Try.prog) (t := 88) (show MapAt (w.drewN n) b1 now from hM.now) uMap uStr zStr k
  have up := fun (n : Nat × TypeId) => MapAt.delete (P := Try.prog) (t := 88) (ty := n.2) (show MapAt (w.drewN n.1) b1 now from hM.now) uMap uStr k
  unfold pV
  unfold mapGetV at look
  obtain ⟨W, hW⟩ := Classical.axiomOfChoice up
  have hW1 := fun n ty => (hW (n, ty)).1
  have HW2 := Lib.hid (fun n => (hW n).2.1)
  have HW3 := Lib.hid (fun n => (hW n).2.2)
  have HM := Lib.hid hM
  clear hM hK up hW
  obtain ⟨g, hg⟩ : ∃ g, g = AL.get k now := ⟨_, rfl⟩
  rw [← hg] at look ⊢
  clear hg
  go_enter Try.func19, Try.ntmps19
  go_wp2_with fail
  go_quiet (fail)
  go_wp2_with fail
  refine still_tail 6 (by kernel_rfl) (by kernel_rfl) ?_
  simp only [List.take_succ_cons, List.take_zero, List.drop_succ_cons, List.drop_zero, World.drewN_drewN]
  repeat still_step
  refine wpStill_nil ?_
  go_wp2
  go_ret2
  exact ⟨rfl, ⟨(HW3.out _ _ (keep_drewN _ _ _)).blk HM.out.blk HM.out.ne1.symm, HW2.out _, HM.out.was.keep (HW3.out _ _ (keep_drewN _ _ _)) HM.out.ne.symm, HM.out.ne⟩, HW3.out _ _ (keep_drewN _ _ _)⟩
theorem clone_any (b : Nat) (l : AL) (w : World) (h : MapAt w b l) :
    Calls Try.prog 46 #[.map (some b)] w fun e w' => e = .returned (.map (some w.heap.size)) ∧ MapAt w' w.heap.size l ∧ Below w.heap.size w w' ∧ w.heap.size < w'.heap.size := by
  obtain ⟨o, hc, hm⟩ := MapAt.clone (P := Try.prog) h 88
  have hx : (callFunc 71 #[.iface 88 (.map (some b))]).run Try.prog w = .ok (.value (.iface 88 (.map (some w.heap.size)))) (w.alloc o) := by
    rw [run_callFunc_extern Try.func71 (by kernel_rfl) (by kernel_rfl) (by kernel_rfl) (show Extern.find Try.f71 = some Extern.MapsClone.clone by kernel_rfl), hc]
    rfl
  have hta : ∀ (v : Option Nat) (w : World), (Instr.typeAssert (.iface 88 (.map v)) 20 88 false).run Try.prog w = .ok (.map v) w := fun _ _ => by kernel_rfl
  have hnil := fun w => run_eql_map_nil (P := Try.prog) w 88 9 9 (some b) uMap
  have HM := Lib.hid hm
  clear h hc hm
  go_enter Try.func46, Try.ntmps46
  go_wp2
  go_ret
  exact ⟨rfl, HM.out, (Below.refl _ _).alloc (Nat.le_refl _) _, by simp⟩
theorem commit_any (p : Nat) (room : Int) (b1 b2 : Nat) (now was : AL) (w : World) (hM : MemIs w p room b1 b2 now was) :
    Calls Try.prog 23 #[pV p] w fun e w' => e = .returned (.int .i64 0) ∧ ∃ b3, w.heap.size ≤ b3 ∧ MemIs w' p room b1 b3 now now ∧ Keep (fun i => i = p) w w' := by
  have hc1 : w.cell? ⟨p, 1, none⟩ = some (.map (some b1)) := by rw [blk_cell hM.blk]; rfl
  have HC := Lib.hid (clone_any b1 now w hM.now)
  have HM := Lib.hid hM
  unfold pV
  clear hM
  go_enter Try.func23, Try.ntmps23
  go_wp2_with fail
  refine HC.out.mono ?_
  rintro e w1 ⟨rfl, hm, hb, hz⟩
  have hblk := (Keep.ofBelow hb (fun _ => False)).blk HM.out.blk (fun h => h)
  have hc2 := blk_cell hblk 2
  have hf2 := blk_frozen hblk 2
  have HMM := Lib.hid hm
  have HB := Lib.hid hb
  have HZ := Lib.hid hz
  have HBLK := Lib.hid hblk
  clear hm hb hz hblk
  simp at hc2
  go_wp2
  go_ret
  refine ⟨rfl, w.heap.size, Nat.le_refl _, ⟨blk_setCell HBLK.out 2 _, ?_, ?_, ?_⟩, Keep.setCell (F := fun i => i = p) (Keep.ofBelow HB.out _) (p := ⟨p, 2, none⟩) (.inl rfl) _⟩
  · exact (HM.out.now.keep (Keep.ofBelow HB.out (fun _ => False)) (fun h => h)).keep (Keep.setCell (F := fun i => i = p) (Keep.refl _ _) (p := ⟨p, 2, none⟩) (.inl rfl) _) HM.out.ne1
  · exact HMM.out.keep (Keep.setCell (F := fun i => i = p) (Keep.refl _ _) (p := ⟨p, 2, none⟩) (.inl rfl) _) (by have := blk_lt HM.out.blk; omega)
  · have := HM.out.now.lt; omega
theorem abort_any (p : Nat) (room : Int) (b1 b2 : Nat) (now was : AL) (w : World) (hM : MemIs w p room b1 b2 now was) :
    Calls Try.prog 21 #[pV p] w fun e w' => e = .returned (.tuple #[]) ∧ ∃ b3, w.heap.size ≤ b3 ∧ MemIs w' p room b3 b2 was was ∧ Keep (fun i => i = p) w w' := by
  have hc1 : w.cell? ⟨p, 2, none⟩ = some (.map (some b2)) := by rw [blk_cell hM.blk]; rfl
  have HC := Lib.hid (clone_any b2 was w hM.was)
  have HM := Lib.hid hM
  unfold pV
  clear hM
  go_enter Try.func21, Try.ntmps21
  go_wp2_with fail
  refine HC.out.mono ?_
  rintro e w1 ⟨rfl, hm, hb, hz⟩
  have hblk := (Keep.ofBelow hb (fun _ => False)).blk HM.out.blk (fun h => h)
  have hc2 := blk_cell hblk 1
  have hf2 := blk_frozen hblk 1
  have HMM := Lib.hid hm
  have HB := Lib.hid hb
  have HBLK := Lib.hid hblk
  clear hm hb hz hblk
  simp at hc2
  go_wp2
  go_end0
  refine ⟨rfl, w.heap.size, Nat.le_refl _, ⟨blk_setCell HBLK.out 1 _, ?_, ?_, ?_⟩, Keep.setCell (F := fun i => i = p) (Keep.ofBelow HB.out _) (p := ⟨p, 1, none⟩) (.inl rfl) _⟩
  · exact HMM.out.keep (Keep.setCell (F := fun i => i = p) (Keep.refl _ _) (p := ⟨p, 1, none⟩) (.inl rfl) _) (by have := blk_lt HM.out.blk; omega)
  · exact (HM.out.was.keep (Keep.ofBelow HB.out (fun _ => False)) (fun h => h)).keep (Keep.setCell (F := fun i => i = p) (Keep.refl _ _) (p := ⟨p, 1, none⟩) (.inl rfl) _) HM.out.ne2
  · have := HM.out.was.lt; omega
theorem new_any (room : Int) (w : World) :
    Calls Try.prog 24 #[.int .i64 room] w fun e w' => ∃ p b1 b2, e = .returned (pV p) ∧ w.heap.size ≤ p ∧ w.heap.size ≤ b1 ∧ w.heap.size ≤ b2 ∧ MemIs w' p room b1 b2 [] [] ∧ Below w.heap.size w w' := by
  have hmm := @run_makeMap Try.prog
  go_enter Try.func24, Try.ntmps24
  go_wp2
  go_ret
  refine ⟨_, w.heap.size, w.heap.size + 1, rfl, ?_, ?_, ?_, ⟨blk_newAt (by simp) _, ((MapAt.made w).alloc _).alloc _, (MapAt.madeAt (by simp)).alloc _, by omega⟩, by go_grown⟩
  all_goals omega
end Go.Proofs.Ytiadoimdohnebaa
