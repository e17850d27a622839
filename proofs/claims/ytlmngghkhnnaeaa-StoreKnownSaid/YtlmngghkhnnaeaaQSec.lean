/- frame.sectors: where each sector begins. -/
import Derived.Test.YtlmngghkhnnaeaaQChk4
import Derived.Test.YtlmngghkhnnaeaaQMReg
import Derived.RangeFuncNested
import Derived.RangeFuncBound
import Derived.RangeFuncCalls
import Derived.RangeFuncLeaves
import Derived.Shelf.Abstract
import Derived.Shelf.RegionOpen
import Derived.OwnWalkIn
import Derived.TacticsInMore
import Derived.LoopNIn
import Derived.LoopIn
import Derived.Deep.DeepCutAuto
namespace Go.Proofs.Ytlmngghkhnnaeaa
open Go.RowKit Go.Shelf
set_option maxRecDepth 100000
set_option maxHeartbeats 1000000
set_option linter.unusedVariables false
set_option linter.unusedSimpArgs false
def SECS : List (Fin 8) := [0, 1, 2, 3, 4, 5, 6, 7]
theorem SECS_get (j : Nat) (h : j < 8) : SECS[j]? = some ⟨j, h⟩ := by
  match j, h with
  | 0, _ => rfl
  | 1, _ => rfl
  | 2, _ => rfl
  | 3, _ => rfl
  | 4, _ => rfl
  | 5, _ => rfl
  | 6, _ => rfl
  | 7, _ => rfl
theorem SECS_take (j : Nat) (h : j < 8) : SECS.take (j + 1) = SECS.take j ++ [⟨j, h⟩] := by rw [List.take_add_one, SECS_get j h]; rfl
/-- what a round keeps -/
def KpT (W W' : World) : Prop := True
def secV (x : Fin 8) : Array Value := #[.int .i64 ((x.val : Int) * 504), .int .i64 ((x.val : Int) * 512)]
theorem sec1_stops (n : Nat) (hn : 1 ≤ n) (w : World) :
    SeqStopsK Fence.wide n Try.prog 64 #[] secV KpT (fun xs => xs = SECS) (fun pre => pre <+: SECS) 8 w := by
  intro l J Jx W hW hJ hJx hY h0
  have HY := Lib.hid hY
  have H0 := Lib.hid h0
  clear hY h0
  refine callsIn_of_wp Try.func64 rfl trivial ?_ rfl
  simp only [Try.ntmps64, List.size_toArray, List.length_cons, List.length_nil, Nat.reduceAdd, Nat.reduceSub, Array.replicate_succ, Array.replicate_zero, List.push_toArray, List.append_toArray, List.nil_append, List.cons_append]
  gi_wp2
  gi_loopw [3] (fun i wr => ∃ j : Nat, j ≤ 8 ∧ i = .int .i64 j ∧ Hid (J (SECS.take j) wr)) (fun i _ => 8 - (intOf i).toNat)
  case atStart => exact ⟨0, by omega, rfl, H0⟩
  case round =>
    obtain ⟨j, hj, rfl, HJs⟩ := hrel
    by_cases hlt : j < 8
    · have hi1 : ((j : Int) < 8) := by omega
      obtain ⟨fn, tmps, assign, body, hy, hR⟩ := HY.out _ ⟨j, hlt⟩ _ HJs.out (by rw [List.length_take]; show min j 8 < 8; omega)
      have HR := Lib.hid hR
      have HTK := Lib.hid (SECS_take j hlt)
      clear hR
      unfold secV at hy
      dsimp only at hy
      gi_wp2
      refine HR.out.mono ?_
      rintro e W3 (⟨rfl, hJ3, hk3⟩ | ⟨rfl, hJx3⟩)
      · have HJ3 := Lib.hid (show J (SECS.take (j + 1)) W3 by rw [HTK.out]; exact hJ3)
        clear hJ3 hk3
        gi_wp2
        go_roundw
        case rel => exact ⟨j + 1, by omega, by simp, HJ3⟩
        case measure => simp [intOf]; omega
      · have HX3 := Lib.hid hJx3
        clear hJx3
        gi_wp2
        refine bodyPost_ret (results_none rfl _ _ _) rfl ?_
        exact ⟨⟨_, rfl⟩, .inr ⟨_, by rw [← HTK.out]; exact List.take_prefix _ _, HX3.out⟩⟩
    · obtain rfl : j = 8 := by omega
      have HE := Lib.hid (show J SECS wr from HJs.out)
      gi_wp2
      go_end0
      exact ⟨⟨_, rfl⟩, .inl ⟨_, rfl, HE.out⟩⟩
theorem sectors_any (w : World) :
    Calls Try.prog 36 #[] w fun e w' => e = .returned (.func (.func 64) #[] #[]) ∧ w' = w := by
  go_enter Try.func36, Try.ntmps36
  go_wp2
  go_ret
  exact ⟨rfl, rfl⟩
end Go.Proofs.Ytlmngghkhnnaeaa
