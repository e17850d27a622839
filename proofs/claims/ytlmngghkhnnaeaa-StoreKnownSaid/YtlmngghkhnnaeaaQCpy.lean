/- Slicing and copying of byte rows. -/
import Derived.Test.YtlmngghkhnnaeaaQDisk
import Derived.Laws.CopyOwn
namespace Go.Proofs.Ytlmngghkhnnaeaa
open Go.RowKit
set_option maxRecDepth 100000
set_option linter.unusedVariables false
set_option linter.unusedSimpArgs false
theorem zp_cells (n : Nat) : Lib.strCells (zp n) = List.replicate n (.int .u8 0) := by
  unfold Lib.strCells zp; simp
theorem BS.cells_at {w : World} {a : Option Addr} {n c : Nat} {s : ByteArray} (h : BS w (.slice a n c) s) (hp : 0 < s.size) : ∃ ad, a = some ad ∧ ∀ (j : Nat) v, (Lib.strCells s)[j]? = some v → w.cell? (ad.add j) = some v := by
  obtain ⟨b, off, rfl, hc⟩ := h.at_ (i := 0) hp
  refine ⟨_, rfl, fun j v hv => ?_⟩
  have hj : j < s.size := by
    have := (List.getElem?_eq_some_iff.1 hv).1
    rwa [Lib.strCells_length] at this
  rw [strCells_get s j hj] at hv
  cases hv
  rw [Go.WideShapes.add_plain]
  exact hc j hj
theorem oneCell_cells (s : ByteArray) : ∀ v ∈ Lib.strCells s, v.oneCell' = true := by
  intro v hv
  obtain ⟨b, _, rfl⟩ := List.mem_map.1 hv
  rfl
theorem ext_list (s : ByteArray) (lo hi : Nat) : (s.extract lo hi).data.toList = (s.data.toList.drop lo).take (hi - lo) := by
  rw [ByteArray.data_extract, Array.toList_extract, List.extract_eq_take_drop]
theorem strCells_ext (s : ByteArray) (lo hi : Nat) : Lib.strCells (s.extract lo hi) = ((Lib.strCells s).drop lo).take (hi - lo) := by
  unfold Lib.strCells
  rw [ext_list, List.map_take, List.map_drop]
theorem ba_of_cells {a b : ByteArray} (h : Lib.strCells a = Lib.strCells b) : a = b := by
  have : a.data.toList = b.data.toList := by
    unfold Lib.strCells at h
    exact (List.map_inj_right (fun x y hxy => by simp at hxy; exact UInt8.toNat_inj.1 (by omega))).1 h
  cases a; cases b; simpa using this
/-- u laid over S from place o on -/
def over (S : ByteArray) (o : Nat) (u : ByteArray) : ByteArray := S.extract 0 o ++ (u ++ S.extract (o + u.size) S.size)
theorem over_cells (S : ByteArray) (o : Nat) (u : ByteArray) (h : o + u.size ≤ S.size) : Lib.strCells (over S o u) = (Lib.strCells S).take o ++ (Lib.strCells u ++ (Lib.strCells S).drop (o + (Lib.strCells u).length)) := by
  unfold over
  rw [strCells_append, strCells_append, strCells_ext, strCells_ext, List.drop_zero, Nat.sub_zero, Lib.strCells_length u]
  congr 2
  rw [List.take_of_length_le (by rw [List.length_drop, Lib.strCells_length]; omega)]
theorem over_size (S : ByteArray) (o : Nat) (u : ByteArray) (h : o + u.size ≤ S.size) : (over S o u).size = S.size := by
  rw [← Lib.strCells_length, over_cells S o u h]
  simp [Lib.strCells_length]
  omega
theorem BS.cut {w : World} {a a' : Option Addr} {c c' : Nat} {s : ByteArray} (h : BS w (.slice a s.size c) s) (lo hi : Nat) (h1 : lo ≤ hi) (h2 : hi ≤ s.size) (ha : 0 < hi - lo → a' = a.map (·.add lo)) (hc : hi - lo ≤ c') (hm : c' ≤ maxLen) (hn : a' = none → c' = 0) : BS w (.slice a' (hi - lo) c') (s.extract lo hi) := by
  have hsz : (s.extract lo hi).size = hi - lo := by rw [ByteArray.size_extract]; omega
  refine ⟨a', c', by rw [hsz], by rw [hsz]; exact hc, hm, hn, ?_⟩
  by_cases h0 : hi - lo = 0
  · left; exact size0 (by rw [hsz, h0])
  · obtain ⟨b, off, rfl, hcell⟩ := h.at_ (i := 0) (by omega)
    refine .inr ⟨b, off + lo, ?_, fun i hi' => ?_⟩
    · rw [ha (by omega), Option.map_some, Go.WideShapes.add_plain]
    · rw [hsz] at hi'
      rw [Nat.add_assoc, hcell (lo + i) (by omega)]
      have e : (s.extract lo hi).data.toList.getD i 0 = s.data.toList.getD (lo + i) 0 := by
        rw [ext_list, List.getD_eq_getElem?_getD, List.getD_eq_getElem?_getD, List.getElem?_take, if_pos hi', List.getElem?_drop]
      rw [e]
theorem so1 (W : World) : (sizeOf (Try.prog.elem 28)).run Try.prog W = .ok 1 W := by kernel_rfl
theorem elemB : Try.prog.underlying 28 = some (.slice (Try.prog.elem 28)) := by kernel_rfl
/-- r.rest[n:] -/
theorem sl_lo (a : Option Addr) (c : Nat) (s : ByteArray) (n : Nat) (k : IntKind) (z : Int) (hz : z = n) (hn : n ≤ s.size) (hc : s.size ≤ c) (hcm : c ≤ maxLen) (hnone : a = none → c = 0) : ∃ a' m c', m = s.size - n ∧
    (∀ W, (Instr.slice 28 (.slice a s.size c) (some (.int k z)) none none).run Try.prog W = .ok (.slice a' m c') W) ∧ ∀ W, BS W (.slice a s.size c) s → BS W (.slice a' m c') (s.extract n s.size) := by
  subst hz
  refine ⟨if c = n then a else a.map (·.add (n * 1)), s.size - n, c - n, rfl, fun W => ?_, fun W hW => ?_⟩
  · rw [run_slice_l (P := Try.prog) W 28 a s.size c elemB k (n : Int) (by omega) (by omega), so1]
    simp only [Result.andThen, sliced, Int.toNat_natCast]
  · refine hW.cut n s.size hn (Nat.le_refl _) (fun h => ?_) (by omega) (by omega) (fun h => ?_)
    · rw [if_neg (by omega), Nat.mul_one]
    · split at h
      · rw [hnone h]; omega
      · cases a with
        | none => rw [hnone rfl]; omega
        | some x => cases h
/-- copy(d, v), d a part of an own row of bytes -/
theorem copy_own (W : World) (base g cap o dCap : Nat) (S s : ByteArray) (a : Option Addr) (c dLen n : Nat) (hn : n = Nat.min s.size dLen) (hO : Own 5 W base (.slice (some ⟨g, 0, none⟩) S.size cap) S) (hv : BS W (.slice a s.size c) s) (h0 : 0 < n) (hfit : o + n ≤ S.size) (ty : TypeId) :
    ∃ w2, (Builtin.copy_ #[28, 28] ty #[.slice (some ⟨g, o, none⟩) dLen dCap, .slice a s.size c]).run Try.prog W = .ok (.int .i64 n) w2 ∧
      Own 5 w2 base (.slice (some ⟨g, 0, none⟩) S.size cap) (over S o (s.extract 0 n)) ∧ Keep (fun i => i = g) W w2 := by
  have hsz : (Try.prog.info? 5).map (·.size) = some 1 := by kernel_rfl
  have hns : n ≤ s.size := by rw [hn]; exact Nat.min_le_left _ _
  have hxs : (s.extract 0 n).size = n := by rw [ByteArray.size_extract]; omega
  obtain ⟨hl0, hO⟩ := hO
  rcases hO with ⟨he, _⟩ | ⟨g', cap', cur, he, hb, hg, hnc, hcm, hcs, htk⟩
  · cases he
  · injection he with he1 he2 he3
    injection he1 with he1
    injection he1 with he1
    subst he1; subst he3
    rw [Nat.mul_one] at hcs htk
    obtain ⟨ad, rfl, hcell⟩ := hv.cells_at (by omega)
    have hl : (Lib.strCells (s.extract 0 n)).length = n := by rw [Lib.strCells_length, hxs]
    have hrun := run_copy_row (P := Try.prog) W 28 28 ty 5 g o dLen dCap ad s.size c cur 5 (Lib.strCells (s.extract 0 n)) uBytes hsz hg (by rw [hl]; exact hn) (fun j v hj => hcell j v (by
      rw [strCells_ext, List.drop_zero, List.getElem?_take] at hj
      split at hj
      · exact hj
      · cases hj)) (by rw [hl]; omega) (oneCell_cells _)
    rw [hl] at hrun
    have hov : (over S o (s.extract 0 n)).size = S.size := over_size _ _ _ (by rw [hxs]; exact hfit)
    have hcur : cur.toList = Lib.strCells S ++ cur.toList.drop S.size := by rw [← htk, List.take_append_drop]
    have hSl : (Lib.strCells S).length = S.size := Lib.strCells_length S
    have hmid : cur.toList.take o ++ Lib.strCells (s.extract 0 n) ++ cur.toList.drop (o + n) = Lib.strCells (over S o (s.extract 0 n)) ++ cur.toList.drop S.size := by
      rw [over_cells _ _ _ (by rw [hxs]; exact hfit), hl]
      conv => lhs; rw [hcur]
      rw [List.take_append_of_le_length (by omega), List.drop_append_of_le_length (by omega)]
      simp only [List.append_assoc]
    rw [hmid] at hrun
    refine ⟨_, hrun, ⟨by rw [Lib.strCells_length, hov, Nat.mul_one], .inr ⟨g, cap, _, by rw [hov], hb, setRow_heap W g cur _ _ _ hg, by rw [hov]; exact hnc, hcm, ?_, ?_⟩⟩, ⟨rfl, rfl, rfl, by simp [World.setRow], fun i hi hne => setRow_other W g i _ hne⟩⟩
    · simp only [List.size_toArray, List.length_append, Lib.strCells_length, hov, List.length_drop, Array.length_toList]
      omega
    · rw [hov, Nat.mul_one]
      show List.take S.size (Lib.strCells (over S o (s.extract 0 n)) ++ cur.toList.drop S.size) = _
      rw [List.take_append_of_le_length (by rw [Lib.strCells_length, hov]; exact Nat.le_refl _), List.take_of_length_le (by rw [Lib.strCells_length, hov]; exact Nat.le_refl _)]
end Go.Proofs.Ytlmngghkhnnaeaa
