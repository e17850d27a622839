/- The walks of package kv's store in memory. -/
import Derived.Test.YtidppalhjknlfaaGreatDoorQMMem
import Derived.Test.YtidppalhjknlfaaGreatDoorProg
import Derived.Handy
import Derived.LoopTactic
import Derived.Deep.QuietTactic
import Derived.BigQuiet
import Derived.StillTailTactics
namespace Go.Proofs.YtidppalhjknlfaaGreatDoor
set_option linter.unusedVariables false
set_option linter.unusedSimpArgs false
open Go.RowKit
theorem uBytes : Tryz.prog.underlying 76 = some (.slice 5) := by kernel_rfl
theorem uByte : Tryz.prog.underlying 5 = some (.int .u8) := by kernel_rfl
theorem uStr : Tryz.prog.underlying 9 = some .string := by kernel_rfl
theorem uMap : Tryz.prog.underlying 39 = some (.map 9 9) := by kernel_rfl
theorem zStr (w : World) : (zeroValue 9).run Tryz.prog w = .ok (.string ByteArray.empty) w := by kernel_rfl
/-- a store in memory -/
structure MemIs (w : World) (p : Nat) (room : Int) (b1 b2 : Nat) (now was : AL) : Prop where
  blk : w.heap[p]? = some (.cells #[.int .i64 room, .map (some b1), .map (some b2)] 41 (0, 0))
  now : MapAt w b1 now
  was : MapAt w b2 was
  ne : b1 ≠ b2
theorem MemIs.ne1 {w : World} {p : Nat} {room : Int} {b1 b2 : Nat} {now was : AL} (h : MemIs w p room b1 b2 now was) : b1 ≠ p := by
  intro e; subst e
  obtain ⟨es, c, h1, _⟩ := h.now
  rw [h.blk] at h1; cases h1
theorem MemIs.ne2 {w : World} {p : Nat} {room : Int} {b1 b2 : Nat} {now was : AL} (h : MemIs w p room b1 b2 now was) : b2 ≠ p := by
  intro e; subst e
  obtain ⟨es, c, h1, _⟩ := h.was
  rw [h.blk] at h1; cases h1
theorem MemIs.keep {F : Nat → Prop} {w w' : World} {p : Nat} {room : Int} {b1 b2 : Nat} {now was : AL} (h : MemIs w p room b1 b2 now was) (hk : Keep F w w') (h0 : ¬ F p) (h1 : ¬ F b1) (h2 : ¬ F b2) : MemIs w' p room b1 b2 now was :=
  ⟨hk.blk h.blk h0, h.now.keep hk h1, h.was.keep hk h2, h.ne⟩
theorem MemIs.below {w w' : World} {p : Nat} {room : Int} {b1 b2 : Nat} {now was : AL} (h : MemIs w p room b1 b2 now was) (hb : Below w.heap.size w w') : MemIs w' p room b1 b2 now was :=
  h.keep (Keep.ofBelow hb (fun _ => False)) (fun h => h) (fun h => h) (fun h => h)
abbrev Mine := Mine0
theorem mine_bytes (w : World) (e : TypeId) (s : ByteArray) (hs : s.size ≤ 9223372036854775807) : Mine (Lib.bytesWorld w e s) w.heap.size (.slice (some ⟨w.heap.size, 0, none⟩) s.size (grownCap w s.size 0 e)) s := by
  refine ⟨BS.bytes w e s hs, .inr ⟨_, _, rfl, Nat.le_refl _, fun i hi => ?_⟩⟩
  have := Lib.bytesWorld_at_new w e s
  have hsz : s.size ≤ (Lib.bytesCells w e s).size := by
    have := data_len s
    simp [Lib.bytesCells] at *
  simp only [World.frozen?, this]
  simp
  intro h
  omega
theorem MemIs.alloc {w : World} {p : Nat} {room : Int} {b1 b2 : Nat} {now was : AL} (h : MemIs w p room b1 b2 now was) (o : Obj) : MemIs (w.alloc o) p room b1 b2 now was := h.below ((Below.refl _ _).alloc (Nat.le_refl _) o)
theorem MemIs.drewN {w : World} {p : Nat} {room : Int} {b1 b2 : Nat} {now was : AL} (h : MemIs w p room b1 b2 now was) (n : Nat) : MemIs (w.drewN n) p room b1 b2 now was := h.below (below_drewN_of _ _)
def pV (p : Nat) : Value := .pointer (some ⟨p, 0, none⟩)
theorem get_any (p : Nat) (room : Int) (b1 b2 : Nat) (now was : AL) (kv : Value) (k : ByteArray) (w : World) (hM : MemIs w p room b1 b2 now was) (hK : BS w kv k) (hv : ∀ v, AL.get k now = some v → v.size ≤ 9223372036854775807) :
    Calls Tryz.prog 103 #[pV p, kv] w fun e w' => ∃ v, e = .returned (.tuple #[v, .bool (AL.get k now).isSome, .int .i64 0]) ∧ Mine w' w.heap.size v ((AL.get k now).getD ByteArray.empty) ∧ Below w.heap.size w w' := by
  have hc1 : w.cell? ⟨p, 1, none⟩ = some (.map (some b1)) := by rw [blk_cell hM.blk]; rfl
  have conv := fun n : Nat => (hK.drewN n).string (P := Tryz.prog) 76 5 9 uBytes uByte uStr
  have look := fun n : Nat => MapAt.lookup_ok (P := Tryz.prog) (t := 39) (show MapAt (w.drewN n) b1 now from hM.now) uMap uStr zStr k
  unfold pV
  unfold mapGetV at look
  have HM := Lib.hid hM
  cases hg : AL.get k now with
  | none =>
    rw [hg] at look
    simp only [Option.isSome_none, Option.getD_none] at look
    clear hM hv hK hg
    go_enter Tryz.func103, Tryz.ntmps103
    go_wp2_with fail
    go_quiet (fail)
    go_wp2
    go_ret3
    exact ⟨_, rfl, ⟨BS.nil _, .inl rfl⟩, below_drewN (Below.refl _ _) _⟩
  | some v =>
    rw [hg] at look
    simp only [Option.isSome_some, Option.getD_some] at look
    have hvl := hv v hg
    have kc := fun n => Lib.run_convert_string_bytes (P := Tryz.prog) (w.drewN n) 9 76 5 v uStr uBytes uByte
    clear hM hv hK hg
    go_enter Tryz.func103, Tryz.ntmps103
    go_wp2_with fail
    go_quiet (fail)
    go_wp2
    go_ret3
    exact ⟨_, rfl, mine_bytes _ _ _ hvl, below_and (below_drewN_of _ _) (bytes_below _ _ _)⟩
set_option maxRecDepth 100000
/-- what Put answers -/
def putE (room : Int) (now : AL) (k v : ByteArray) : Int :=
  if k.size = 0 then 1 else if 256 < k.size ∨ 1024 < v.size then 2 else if AL.get k now = none ∧ 0 ≤ room ∧ room ≤ now.length then 3 else 0
def putA (room : Int) (now : AL) (k v : ByteArray) : AL := if putE room now k v = 0 then AL.put k v now else now
theorem put_any (p : Nat) (room : Int) (b1 b2 : Nat) (now was : AL) (kv vv : Value) (k v : ByteArray) (w : World) (hM : MemIs w p room b1 b2 now was) (hK : BS w kv k) (hV : BS w vv v) (hl : now.length ≤ 9223372036854775807) :
    Calls Tryz.prog 104 #[pV p, kv, vv] w fun e w' => e = .returned (.int .i64 (putE room now k v)) ∧ MemIs w' p room b1 b2 (putA room now k v) was ∧ Keep (fun i => i = b1) w w' := by
  have hc0 : w.cell? ⟨p, 0, none⟩ = some (.int .i64 room) := by rw [blk_cell hM.blk]; rfl
  have hc1 : w.cell? ⟨p, 1, none⟩ = some (.map (some b1)) := by rw [blk_cell hM.blk]; rfl
  have conv := fun n : Nat => (hK.drewN n).string (P := Tryz.prog) 76 5 9 uBytes uByte uStr
  have convv := fun n : Nat => (hV.drewN n).string (P := Tryz.prog) 76 5 9 uBytes uByte uStr
  have look := fun n : Nat => MapAt.lookup_ok (P := Tryz.prog) (t := 39) (show MapAt (w.drewN n) b1 now from hM.now) uMap uStr zStr k
  have up := fun n : Nat => MapAt.update (P := Tryz.prog) (t := 39) (show MapAt (w.drewN n) b1 now from hM.now) uMap uStr k v
  have ln := fun (n : Nat) (ty : TypeId) => MapAt.len (P := Tryz.prog) (t := 39) (show MapAt (w.drewN n) b1 now from hM.now) uMap ty
  obtain ⟨ka, kc, rfl⟩ := hK.len
  obtain ⟨va, vc, rfl⟩ := hV.len
  unfold pV
  unfold mapGetV at look
  have HM := Lib.hid hM
  have HL := Lib.hid hl
  have hkm : k.size ≤ 9223372036854775807 := by obtain ⟨a, c, he, h1, h2, _⟩ := hK; simp at he; unfold maxLen at h2; omega
  have hvm : v.size ≤ 9223372036854775807 := by obtain ⟨a, c, he, h1, h2, _⟩ := hV; simp at he; unfold maxLen at h2; omega
  clear hM hK hV hl
  by_cases h0 : k.size = 0
  · have e1 : putE room now k v = 1 := by unfold putE; rw [if_pos h0]
    rw [e1, show putA room now k v = now by unfold putA; rw [e1]; rfl]
    have hz : ((k.size : Int) == 0) = true := beq_iff_eq.2 (by omega)
    clear e1 h0
    go_enter Tryz.func104, Tryz.ntmps104
    go_wp2
    go_ret
    exact ⟨rfl, HM.out, Keep.refl _ _⟩
  · have hz : ((k.size : Int) == 0) = false := beq_eq_false_iff_ne.2 (by omega)
    by_cases h1 : 256 < k.size ∨ 1024 < v.size
    · have e1 : putE room now k v = 2 := by unfold putE; rw [if_neg h0, if_pos h1]
      rw [e1, show putA room now k v = now by unfold putA; rw [e1]; rfl]
      clear e1 h0
      by_cases h2 : 256 < k.size
      · have h2' : (256 : Int) < k.size := by omega
        clear h1
        go_enter Tryz.func104, Tryz.ntmps104
        go_wp2
        go_ret
        exact ⟨rfl, HM.out, Keep.refl _ _⟩
      · have h3 : (1024 : Int) < v.size := by omega
        have h2' : (k.size : Int) ≤ 256 := by omega
        clear h1
        go_enter Tryz.func104, Tryz.ntmps104
        go_wp2
        go_ret
        exact ⟨rfl, HM.out, Keep.refl _ _⟩
    · have h2' : (k.size : Int) ≤ 256 := by omega
      have h3' : (v.size : Int) ≤ 1024 := by omega
      cases hg : AL.get k now with
      | none =>
        rw [hg] at look
        simp only [Option.isSome_none, Option.getD_none] at look
        by_cases hf : 0 ≤ room ∧ room ≤ now.length
        · have e1 : putE room now k v = 3 := by unfold putE; rw [if_neg h0, if_neg h1, if_pos ⟨hg, hf⟩]
          rw [e1, show putA room now k v = now by unfold putA; rw [e1]; rfl]
          obtain ⟨hf1, hf2⟩ := hf
          clear e1 h0 h1 hg up
          go_enter Tryz.func104, Tryz.ntmps104
          go_wp2_with fail
          go_quiet (fail)
          go_wp2_with fail
          go_quiet (fail)
          go_wp2
          go_ret
          exact ⟨rfl, by repeat (first | exact HM.out | apply MemIs.drewN), by repeat (first | exact Keep.refl _ _ | apply Keep.drewN)⟩
        · have e1 : putE room now k v = 0 := by unfold putE; rw [if_neg h0, if_neg h1, if_neg (by intro hh; exact hf ⟨hh.2.1, hh.2.2⟩)]
          rw [e1, show putA room now k v = AL.put k v now by unfold putA; rw [e1]; rfl]
          have hf' : room < 0 ∨ (0 ≤ room ∧ (now.length : Int) < room) := by omega
          obtain ⟨W, hW⟩ := Classical.axiomOfChoice up
          have hW1 := fun n => (hW n).1
          have HW2 := Lib.hid (fun n => (hW n).2.1)
          have HW3 := Lib.hid (fun n => (hW n).2.2)
          clear e1 h0 h1 hg hf hW up
          rcases hf' with hf | ⟨hf1, hf2⟩
          · have hf0 : decide (0 ≤ room) = false := decide_eq_false (by omega)
            go_enter Tryz.func104, Tryz.ntmps104
            go_wp2_with fail
            go_quiet (fail)
            go_wp2_with fail
            go_quiet (fail)
            go_wp2_with fail
            refine still_tail 8 (by kernel_rfl) (by kernel_rfl) ?_
            simp only [List.take_succ_cons, List.take_zero, List.drop_succ_cons, List.drop_zero, World.drewN_drewN]
            repeat still_step
            refine wpStill_nil ?_
            go_wp2
            go_ret
            exact ⟨rfl, ⟨(HW3.out _ _ (keep_drewN _ _ _)).blk HM.out.blk HM.out.ne1.symm, HW2.out _, HM.out.was.keep (HW3.out _ _ (keep_drewN _ _ _)) HM.out.ne.symm, HM.out.ne⟩, HW3.out _ _ (keep_drewN _ _ _)⟩
          · have hf0 : decide (0 ≤ room) = true := decide_eq_true (by omega)
            have hf3 : decide (room ≤ (now.length : Int)) = false := decide_eq_false (by omega)
            go_enter Tryz.func104, Tryz.ntmps104
            go_wp2_with fail
            go_quiet (fail)
            go_wp2_with fail
            go_quiet (fail)
            go_wp2_with fail
            refine still_tail 8 (by kernel_rfl) (by kernel_rfl) ?_
            simp only [List.take_succ_cons, List.take_zero, List.drop_succ_cons, List.drop_zero, World.drewN_drewN]
            repeat still_step
            refine wpStill_nil ?_
            go_wp2
            go_ret
            exact ⟨rfl, ⟨(HW3.out _ _ (keep_drewN _ _ _)).blk HM.out.blk HM.out.ne1.symm, HW2.out _, HM.out.was.keep (HW3.out _ _ (keep_drewN _ _ _)) HM.out.ne.symm, HM.out.ne⟩, HW3.out _ _ (keep_drewN _ _ _)⟩
      | some x =>
        rw [hg] at look
        simp only [Option.isSome_some, Option.getD_some] at look
        have e1 : putE room now k v = 0 := by unfold putE; rw [if_neg h0, if_neg h1, if_neg (by rw [hg]; simp)]
        rw [e1, show putA room now k v = AL.put k v now by unfold putA; rw [e1]; rfl]
        obtain ⟨W, hW⟩ := Classical.axiomOfChoice up
        have hW1 := fun n => (hW n).1
        have HW2 := Lib.hid (fun n => (hW n).2.1)
        have HW3 := Lib.hid (fun n => (hW n).2.2)
        clear e1 h0 h1 hg hW up
        go_enter Tryz.func104, Tryz.ntmps104
        go_wp2_with fail
        go_quiet (fail)
        go_wp2_with fail
        go_quiet (fail)
        go_wp2_with fail
        refine still_tail 8 (by kernel_rfl) (by kernel_rfl) ?_
        simp only [List.take_succ_cons, List.take_zero, List.drop_succ_cons, List.drop_zero, World.drewN_drewN]
        repeat still_step
        refine wpStill_nil ?_
        go_wp2
        go_ret
        exact ⟨rfl, ⟨(HW3.out _ _ (keep_drewN _ _ _)).blk HM.out.blk HM.out.ne1.symm, HW2.out _, HM.out.was.keep (HW3.out _ _ (keep_drewN _ _ _)) HM.out.ne.symm, HM.out.ne⟩, HW3.out _ _ (keep_drewN _ _ _)⟩
end Go.Proofs.YtidppalhjknlfaaGreatDoor
