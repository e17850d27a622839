/- The walks of package kv's store in memory: nil, Delete, Commit, Abort, New. -/
import Derived.Test.YtidppalhjknlfaaGreatDoorQKv
import Derived.WalkSpells
namespace Go.Proofs.YtidppalhjknlfaaGreatDoor
set_option linter.unusedVariables false
set_option linter.unusedSimpArgs false
open Go.RowKit
set_option maxRecDepth 100000
theorem get_nil (kv : Value) (w : World) :
    Calls Tryz.prog 103 #[.pointer none, kv] w fun e w' => e = .returned (.tuple #[.slice none 0 0, .bool false, .int .i64 8]) ∧ w' = w := by
  go_enter Tryz.func103, Tryz.ntmps103
  go_wp2
  go_ret3
  exact ⟨rfl, rfl⟩
theorem put_nil (kv vv : Value) (w : World) :
    Calls Tryz.prog 104 #[.pointer none, kv, vv] w fun e w' => e = .returned (.int .i64 8) ∧ w' = w := by
  go_enter Tryz.func104, Tryz.ntmps104
  go_wp2
  go_ret
  exact ⟨rfl, rfl⟩
theorem delete_nil (kv : Value) (w : World) :
    Calls Tryz.prog 102 #[.pointer none, kv] w fun e w' => e = .returned (.tuple #[.bool false, .int .i64 8]) ∧ w' = w := by
  go_enter Tryz.func102, Tryz.ntmps102
  go_wp2
  go_ret2
  exact ⟨rfl, rfl⟩
theorem range_nil (kv vv : Value) (w : World) :
    Calls Tryz.prog 105 #[.pointer none, kv, vv] w fun e w' => e = .returned (.tuple #[.slice none 0 0, .int .i64 8]) ∧ w' = w := by
  go_enter Tryz.func105, Tryz.ntmps105
  go_wp2
  go_ret2
  exact ⟨rfl, rfl⟩
theorem delete_any (p : Nat) (room : Int) (b1 b2 : Nat) (now was : AL) (kv : Value) (k : ByteArray) (w : World) (hM : MemIs w p room b1 b2 now was) (hK : BS w kv k) :
    Calls Tryz.prog 102 #[pV p, kv] w fun e w' => e = .returned (.tuple #[.bool (AL.get k now).isSome, .int .i64 0]) ∧ MemIs w' p room b1 b2 (AL.del k now) was ∧ Keep (fun i => i = b1) w w' := by
  have hc1 : w.cell? ⟨p, 1, none⟩ = some (.map (some b1)) := by rw [blk_cell hM.blk]; rfl
  have conv := fun n : Nat => (hK.drewN n).string (P := Tryz.prog) 76 5 9 uBytes uByte uStr
  have look := fun n : Nat => MapAt.lookup_ok (P := Tryz.prog) (t := 39) (show MapAt (w.drewN n) b1 now from hM.now) uMap uStr zStr k
  have up := fun (n : Nat × TypeId) => MapAt.delete (P := Tryz.prog) (t := 39) (ty := n.2) (show MapAt (w.drewN n.1) b1 now from hM.now) uMap uStr k
  unfold pV
  unfold mapGetV at look
  obtain ⟨W, hW⟩ := Classical.axiomOfChoice up
  have hW1 := fun n ty => (hW (n, ty)).1
  have HW2 := Lib.hid (fun n => (hW n).2.1)
  have HW3 := Lib.hid (fun n => (hW n).2.2)
  have HM := Lib.hid hM
  clear hM hK up hW
  obtain ⟨g, hg⟩ : ∃ g, g = AL.get k now := ⟨_, rfl⟩
  rw [← hg] at look ⊢
  clear hg
  go_enter Tryz.func102, Tryz.ntmps102
  go_wp2_with fail
  go_quiet (fail)
  go_wp2_with fail
  refine still_tail 6 (by kernel_rfl) (by kernel_rfl) ?_
  simp only [List.take_succ_cons, List.take_zero, List.drop_succ_cons, List.drop_zero, World.drewN_drewN]
  repeat still_step
  refine wpStill_nil ?_
  go_wp2
  go_ret2
  exact ⟨rfl, ⟨(HW3.out _ _ (keep_drewN _ _ _)).blk HM.out.blk HM.out.ne1.symm, HW2.out _, HM.out.was.keep (HW3.out _ _ (keep_drewN _ _ _)) HM.out.ne.symm, HM.out.ne⟩, HW3.out _ _ (keep_drewN _ _ _)⟩
theorem new_any (room : Int) (w : World) :
    Calls Tryz.prog 5 #[.int .i64 room] w fun e w' => ∃ p b1 b2, e = .returned (pV p) ∧ w.heap.size ≤ p ∧ w.heap.size ≤ b1 ∧ w.heap.size ≤ b2 ∧ MemIs w' p room b1 b2 [] [] ∧ Below w.heap.size w w' := by
  have hmm := @run_makeMap Tryz.prog
  go_enter Tryz.func5, Tryz.ntmps5
  go_wp2
  go_ret
  refine ⟨_, w.heap.size, w.heap.size + 1, rfl, ?_, ?_, ?_, ⟨blk_newAt (by simp) _, ((MapAt.made w).alloc _).alloc _, (MapAt.madeAt (by simp)).alloc _, by omega⟩, by go_grown⟩
  all_goals omega
end Go.Proofs.YtidppalhjknlfaaGreatDoor
