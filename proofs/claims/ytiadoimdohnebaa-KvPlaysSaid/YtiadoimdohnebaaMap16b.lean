/- The document's map (chapter 16): the walks of its place, Get, Commit, Abort, Delete, Put. -/
import Derived.Test.YtiadoimdohnebaaMap16
namespace Go.Proofs.Ytiadoimdohnebaa
open Go.RowKit
set_option maxRecDepth 100000
set_option maxHeartbeats 2000000
set_option linter.unusedVariables false
set_option linter.unusedSimpArgs false
structure M16 where
  room : Int
  L : AL
  Z : AL
structure M16Is (w : World) (B p : Nat) (vL vZ : Value) (M : M16) : Prop where
  blk : w.heap[p]? = some (.cells #[.int .i64 M.room, vL, vZ] 77 (0, 0))
  rowL : w.ownsRow B 117 2 vL M.L.length (M.L.flatMap pc)
  rowZ : w.ownsRow B 117 2 vZ M.Z.length (M.Z.flatMap pc)
  low : B ≤ p
section
variable {w : World} {B p : Nat} {vL vZ : Value} {M : M16}
theorem M16Is.neL (h : M16Is w B p vL vZ M) : vL.ownBlock ≠ some p := fun e => by
  obtain ⟨_, _, c, hc⟩ := rowk_blk h.rowL e
  rw [h.blk] at hc; simp only [Option.some.injEq, Obj.cells.injEq] at hc; exact absurd hc.2.1 (by decide)
theorem M16Is.neZ (h : M16Is w B p vL vZ M) : vZ.ownBlock ≠ some p := fun e => by
  obtain ⟨_, _, c, hc⟩ := rowk_blk h.rowZ e
  rw [h.blk] at hc; simp only [Option.some.injEq, Obj.cells.injEq] at hc; exact absurd hc.2.1 (by decide)
theorem M16Is.keep {F : Nat → Prop} {w' : World} (h : M16Is w B p vL vZ M) (hk : Keep F w w') (h0 : ¬ F p) (h1 : ∀ i, vL.ownBlock = some i → ¬ F i) (h2 : ∀ i, vZ.ownBlock = some i → ¬ F i) : M16Is w' B p vL vZ M :=
  ⟨hk.blk h.blk h0, rowk_keep hk h.rowL h1, rowk_keep hk h.rowZ h2, h.low⟩
theorem M16Is.below {w' : World} (h : M16Is w B p vL vZ M) (hb : Below w.heap.size w w') : M16Is w' B p vL vZ M := h.keep (Keep.ofBelow hb (fun _ => False)) (fun h => h) (fun _ _ h => h) (fun _ _ h => h)
theorem M16Is.c0 (h : M16Is w B p vL vZ M) : w.cell? ⟨p, 0, none⟩ = some (.int .i64 M.room) := by rw [blk_cell h.blk]; rfl
theorem M16Is.c1 (h : M16Is w B p vL vZ M) : w.cell? ⟨p, 1, none⟩ = some vL := by rw [blk_cell h.blk]; rfl
theorem M16Is.c2 (h : M16Is w B p vL vZ M) : w.cell? ⟨p, 2, none⟩ = some vZ := by rw [blk_cell h.blk]; rfl
theorem M16Is.fz (h : M16Is w B p vL vZ M) (i : Nat) : w.frozen? ⟨p, i, none⟩ = false := blk_frozen h.blk i
def plc (k : ByteArray) : AL → Nat
  | [] => 0
  | q :: l => if slt q.1 k = true then plc k l + 1 else 0
def isP (k : ByteArray) (l : AL) : Bool := match l[plc k l]? with | some q => q.1.toList == k.toList | none => false
theorem plc_at (k : ByteArray) : ∀ (l : AL) (i : Nat), (∀ (j : Nat) q, j < i → l[j]? = some q → slt q.1 k = true) → i ≤ l.length → (∀ q, l[i]? = some q → slt q.1 k = false) → plc k l = i
  | [], i, _, hi, _ => by simp at hi; rw [hi]; rfl
  | a :: l, 0, _, _, h => by
    have := h a rfl
    unfold plc; rw [this]; rfl
  | a :: l, i + 1, hb, hi, h => by
    have h0 := hb 0 a (by omega) rfl
    unfold plc
    rw [h0, if_pos rfl, plc_at k l i (fun j q hj hq => hb (j + 1) q (by omega) (by rw [List.getElem?_cons_succ]; exact hq)) (by simpa using hi) (fun q hq => h q (by rw [List.getElem?_cons_succ]; exact hq))]
theorem plc_le (k : ByteArray) : ∀ l : AL, plc k l ≤ l.length
  | [] => Nat.le_refl _
  | a :: l => by
    unfold plc
    split
    · have := plc_le k l; simp; omega
    · exact Nat.zero_le _
def mV (p : Nat) : Value := .pointer (some ⟨p, 0, none⟩)
theorem place_any (k : ByteArray) (hX : M16Is w B p vL vZ M) (hl : M.L.length ≤ 1000000) :
    Calls Try.prog 77 #[mV p, .string k] w fun e w' => e = .returned (.tuple #[.int .i64 (plc k M.L), .bool (isP k M.L)]) ∧ Below w.heap.size w w' := by
  obtain ⟨la, lc, rfl⟩ := rowk_shape hX.rowL
  have hc1 := hX.c1
  have HX := Lib.hid hX
  obtain ⟨n, hn⟩ : ∃ n, n = M.L.length := ⟨_, rfl⟩
  have HN := Lib.hid hn
  rw [← hn] at hl hc1 HX
  obtain ⟨r, hr⟩ : ∃ r, r = plc k M.L := ⟨_, rfl⟩
  obtain ⟨s, hs⟩ : ∃ s, s = isP k M.L := ⟨_, rfl⟩
  rw [← hr, ← hs]
  have HR := Lib.hid hr
  have HS := Lib.hid hs
  unfold mV
  clear hX hn hr hs
  go_enter Try.func77, Try.ntmps77
  go_wp2_with fail
  go_loopw [6] (fun s wr => ∃ i : Nat, i ≤ n ∧ s = .int .i64 i ∧ Hid (∀ (j : Nat) q, j < i → M.L[j]? = some q → slt q.1 k = true) ∧ Hid (wr = w)) (fun s _ => n - (intOf s).toNat)
  case atStart => exact ⟨0, by omega, rfl, Lib.hid (fun j q hj => by omega), Lib.hid rfl⟩
  case round =>
    obtain ⟨i, hi, rfl, HE, HW⟩ := hrel
    obtain rfl := HW.out.symm
    by_cases hlt : i < n
    · have i1 : decide ((i : Int) < (n : Int)) = true := decide_eq_true (by omega)
      obtain ⟨q, hq⟩ : ∃ q, M.L[i]? = some q := ⟨_, List.getElem?_eq_getElem (by have := HN.out; omega)⟩
      obtain ⟨g, cap, he, hcell⟩ := rowk_cell HX.out.rowL (by have := HN.out; omega)
      rw [← HN.out] at he
      injection he with he _ hec
      subst he; subst hec
      have q1 : ∀ m, (w.drewN m).cell? ⟨g, i * 2, none⟩ = some (.string q.1) := fun m => hcell _ _ (pflat_get M.L i q hq).1
      have q0 := q1 0
      have q3 : ∀ m, (w.drewN m).cell? ⟨p, 1, none⟩ = some (.slice (some ⟨g, 0, none⟩) n lc) := fun m => HX.out.c1
      rw [show w.drewN 0 = w from rfl] at q0
      have HQ := Lib.hid hq
      obtain ⟨qk, qv⟩ := q
      simp only at q0 q1
      clear hcell hq
      cases hb : slt qk k with
      | true =>
        have i2 : Op.bytesLess qk.toList k.toList = true := hb
        have HB := Lib.hid hb
        clear hb
        go_wp2_with fail
        refine ⟨⟨i + 1, by omega, rfl, Lib.hid (fun j y hj hy => ?_), Lib.hid (by trivial)⟩, by simp [intOf]; omega⟩
        by_cases hji : j = i
        · subst hji; rw [HQ.out] at hy; cases hy; exact HB.out
        · exact HE.out j y (by omega) hy
      | false =>
        have i2 : Op.bytesLess qk.toList k.toList = false := hb
        have hrp : r = i := by
          rw [HR.out]
          exact plc_at k M.L i HE.out (by have := HN.out; omega) (fun y hy => by rw [HQ.out] at hy; cases hy; exact hb)
        have hsp : s = (qk.toList == k.toList) := by
          rw [HS.out]
          unfold isP
          rw [← HR.out, hrp, HQ.out]
        subst hrp
        subst hsp
        have HBW := Lib.hid (fun m => (below_drewN_of w m : Below w.heap.size w (w.drewN m)))
        clear hb
        go_wp2_with fail
        go_quiet (fail)
        go_wp2_with fail
        go_ret2
        exact ⟨rfl, HBW.out _⟩
    · obtain rfl : i = n := by omega
      have i1 : decide ((i : Int) < (i : Int)) = false := decide_eq_false (by omega)
      have hno : M.L[i]? = none := List.getElem?_eq_none (by have := HN.out; omega)
      have hrp : r = i := by
        rw [HR.out]
        exact plc_at k M.L i HE.out (by have := HN.out; omega) (fun y hy => by rw [hno] at hy; cases hy)
      have hsp : s = false := by
        rw [HS.out]
        unfold isP
        rw [← HR.out, hrp, hno]
      subst hrp
      subst hsp
      clear hno
      go_wp2_with fail
      go_ret2
      exact ⟨rfl, Below.refl _ _⟩
def getR (k : ByteArray) (l : AL) : Option ByteArray := if isP k l = true then (l[plc k l]?).map (·.2) else none
theorem isP_at {k : ByteArray} {l : AL} (h : isP k l = true) : ∃ q, l[plc k l]? = some q ∧ q.1 = k ∧ getR k l = some q.2 := by
  have h' := h
  unfold isP at h'
  cases hq : l[plc k l]? with
  | none => rw [hq] at h'; cases h'
  | some q =>
    rw [hq] at h'
    have h2 : (q.1.toList == k.toList) = true := h'
    rw [seq_iff] at h2
    refine ⟨q, rfl, of_decide_eq_true h2, ?_⟩
    unfold getR
    rw [if_pos h, hq]; rfl
theorem rget_any (k : ByteArray) (hX : M16Is w B p vL vZ M) (hl : M.L.length ≤ 1000000) :
    Calls Try.prog 62 #[mV p, .string k] w fun e w' => e = .returned (.tuple #[.string ((getR k M.L).getD ByteArray.empty), .bool (getR k M.L).isSome]) ∧ Below w.heap.size w w' := by
  have HP := Lib.hid (place_any k hX hl)
  have HX := Lib.hid hX
  cases hb : isP k M.L with
  | false =>
    rw [show getR k M.L = none by unfold getR; rw [hb]; rfl]
    rw [hb] at HP
    unfold mV at *
    clear hX hb
    show Calls Try.prog _ _ w fun e w' => e = .returned (.tuple #[.string ByteArray.empty, .bool false]) ∧ _
    go_enter Try.func62, Try.ntmps62
    go_wp2_with fail
    refine HP.out.mono ?_
    rintro e w1 ⟨rfl, hb⟩
    have HB := Lib.hid hb
    clear hb
    go_wp2_with fail
    go_ret2
    exact ⟨rfl, HB.out⟩
  | true =>
    obtain ⟨q, hq, hqk, hg⟩ := isP_at hb
    rw [hg]
    rw [hb] at HP
    have hqi := (List.getElem?_eq_some_iff.1 hq).1
    obtain ⟨i, hi⟩ : ∃ i, i = plc k M.L := ⟨_, rfl⟩
    rw [← hi] at hq hqi HP
    obtain ⟨g, cap, hv, hcell⟩ := rowk_cell hX.rowL (by omega)
    subst hv
    have q2 := hcell _ _ (pflat_get M.L i q hq).2
    have hii : (i : Int) < (M.L.length : Int) := by omega
    obtain ⟨n, hn⟩ : ∃ n, n = M.L.length := ⟨_, rfl⟩
    have HC := Lib.hid (And.intro hX.c1 q2)
    rw [← hn] at HC hii
    obtain ⟨qk, qv⟩ := q
    simp only at HC
    unfold mV at *
    clear hX hb hq hi hcell q2 hqk hg hn hqi
    show Calls Try.prog _ _ w fun e w' => e = .returned (.tuple #[.string qv, .bool true]) ∧ _
    go_enter Try.func62, Try.ntmps62
    go_wp2_with fail
    refine HP.out.mono ?_
    rintro e w1 ⟨rfl, hb⟩
    have HB := Lib.hid hb
    have e1 := (Keep.ofBelow hb (fun _ => False)).cell HC.out.1 (fun h => h)
    have e2 := (Keep.ofBelow hb (fun _ => False)).cell HC.out.2 (fun h => h)
    clear hb
    go_wp2_with fail
    go_ret2
    exact ⟨rfl, HB.out⟩
theorem rcommit_any (hX : M16Is w B p vL vZ M) : Calls Try.prog 65 #[mV p] w fun e w' => e = .returned (.tuple #[]) ∧ M16Is w' B p vL vL { M with Z := M.L } ∧ Keep (fun i => i = p) w w' := by
  obtain ⟨la, lc, rfl⟩ := rowk_shape hX.rowL
  obtain ⟨za, zc, rfl⟩ := rowk_shape hX.rowZ
  have hc1 := hX.c1
  have hc2 := hX.c2
  have hf2 := hX.fz 2
  have hk : Keep (fun i => i = p) w (w.setCell ⟨p, 2, none⟩ (.slice la M.L.length lc)) := (Keep.refl (fun i => i = p) w).setCell (p := ⟨p, 2, none⟩) (.inl rfl) _
  have hx : M16Is (w.setCell ⟨p, 2, none⟩ (.slice la M.L.length lc)) B p (.slice la M.L.length lc) (.slice la M.L.length lc) { M with Z := M.L } :=
    ⟨blk_setCell hX.blk 2 _, rowk_keep hk hX.rowL (fun i hi e => hX.neL (by rw [← e]; exact hi)), rowk_keep hk hX.rowL (fun i hi e => hX.neL (by rw [← e]; exact hi)), hX.low⟩
  have HX := Lib.hid hx
  have HK := Lib.hid hk
  unfold mV
  clear hX hk hx
  go_enter Try.func65, Try.ntmps65
  go_wp2_with fail
  go_end0
  exact ⟨rfl, HX.out, HK.out⟩
theorem rabort_any (hX : M16Is w B p vL vZ M) : Calls Try.prog 66 #[mV p] w fun e w' => e = .returned (.tuple #[]) ∧ M16Is w' B p vZ vZ { M with L := M.Z } ∧ Keep (fun i => i = p) w w' := by
  obtain ⟨la, lc, rfl⟩ := rowk_shape hX.rowL
  obtain ⟨za, zc, rfl⟩ := rowk_shape hX.rowZ
  have hc1 := hX.c1
  have hc2 := hX.c2
  have hf1 := hX.fz 1
  have hk : Keep (fun i => i = p) w (w.setCell ⟨p, 1, none⟩ (.slice za M.Z.length zc)) := (Keep.refl (fun i => i = p) w).setCell (p := ⟨p, 1, none⟩) (.inl rfl) _
  have hx : M16Is (w.setCell ⟨p, 1, none⟩ (.slice za M.Z.length zc)) B p (.slice za M.Z.length zc) (.slice za M.Z.length zc) { M with L := M.Z } :=
    ⟨blk_setCell hX.blk 1 _, rowk_keep hk hX.rowZ (fun i hi e => hX.neZ (by rw [← e]; exact hi)), rowk_keep hk hX.rowZ (fun i hi e => hX.neZ (by rw [← e]; exact hi)), hX.low⟩
  have HX := Lib.hid hx
  have HK := Lib.hid hk
  unfold mV
  clear hX hk hx
  go_enter Try.func66, Try.ntmps66
  go_wp2_with fail
  go_end0
  exact ⟨rfl, HX.out, HK.out⟩
end
end Go.Proofs.Ytiadoimdohnebaa
