/- Rows of pages outlive acts; the plain law of chapter 3: sectors. -/
import Derived.Test.YtpclfnamknioaaaActs3In
namespace Go.Proofs.Ytpclfnamknioaaa
open Go.RowKit
set_option maxRecDepth 100000
set_option linter.unusedVariables false
set_option linter.unusedSimpArgs false
theorem PL.fr {w w' : World} {B p bl : Nat} {v : Value} {l : List ByteArray} (h : PL w B v l) (hF : FR p bl w w') (hp : p < B) (hbl : bl < B) : PL w' B v l := by
  obtain ⟨⟨vs, h1, h2⟩, h3⟩ := h
  refine ⟨⟨vs, ⟨h1.1, ?_⟩, fun i s hs => ?_⟩, h3⟩
  · rcases h1.2 with hn | ⟨g, cap, cur, he, hbg, hg, rest⟩
    · exact .inl hn
    · exact .inr ⟨g, cap, cur, he, hbg, hF g cur _ _ (by decide) (by omega) (by omega) hg, rest⟩
  · obtain ⟨x, a, b⟩ := h2 i s hs
    refine ⟨x, a, b.1, ?_⟩
    rcases b.2 with hn | ⟨g, cap, cur, he, hbg, hg, rest⟩
    · exact .inl hn
    · exact .inr ⟨g, cap, cur, he, hbg, hF g cur _ _ (by decide) (by omega) (by omega) hg, rest⟩
/-- a page once the first k of those that wait are settled -/
theorem setl_get (f : Nat → Int) (W : Wt) (L : List Pg) (hn : (W.map (·.1)).Nodup) (hr : ∀ q ∈ W, 0 ≤ q.1 ∧ q.1 < L.length) (i : Nat) : ∀ k, k ≤ W.length →
    (∃ (j : Nat) (u : ByteArray), j < k ∧ W[j]? = some ((i : Int), u) ∧ (setl f W L k)[i]? = some (some (mix (f j) (pgOf (L.getD i none)) u 8))) ∨
    ((∀ (j : Nat) q, j < k → W[j]? = some q → q.1 ≠ i) ∧ (setl f W L k)[i]? = L[i]?)
  | 0, _ => .inr ⟨fun j q h => by omega, rfl⟩
  | k + 1, hk => by
    obtain ⟨⟨a, u⟩, hq⟩ : ∃ q, W[k]? = some q := ⟨_, List.getElem?_eq_getElem (by omega)⟩
    obtain ⟨ha0, ha1⟩ := hr _ (List.mem_of_getElem? hq)
    simp only at ha0 ha1
    obtain ⟨at_, rfl⟩ : ∃ n : Nat, a = n := ⟨a.toNat, by omega⟩
    have hl := setl_length f W L k
    obtain ⟨o, ho⟩ : ∃ o, (setl f W L k)[at_]? = some o := ⟨_, List.getElem?_eq_getElem (by omega)⟩
    have hst := setl_step f W L k at_ u o hq ho
    have ih := setl_get f W L hn hr i k (by omega)
    rw [hst, List.getElem?_set]
    by_cases hi : at_ = i
    · subst hi
      rw [if_pos rfl, if_pos (by omega)]
      rcases ih with ⟨j, x, hj, hx, _⟩ | ⟨hno, hs⟩
      · exfalso
        have h1 : (W.map (·.1))[j]? = some (at_ : Int) := by rw [List.getElem?_map, hx]; rfl
        have h2 : (W.map (·.1))[k]? = some (at_ : Int) := by rw [List.getElem?_map, hq]; rfl
        have hjl := (List.getElem?_eq_some_iff.1 h1).1
        have := (List.getElem?_inj (l := W.map (·.1)) hjl hn).1 (h1.trans h2.symm)
        omega
      · refine .inl ⟨k, u, by omega, hq, ?_⟩
        rw [ho] at hs
        rw [List.getD_eq_getElem?_getD, ← hs, Option.getD_some]
    · rw [if_neg hi]
      rcases ih with ⟨j, x, hj, hx, hs⟩ | ⟨hno, hs⟩
      · exact .inl ⟨j, x, by omega, hx, hs⟩
      · refine .inr ⟨fun j q hj hjq => ?_, hs⟩
        by_cases hjk : j = k
        · subst hjk
          rw [hq] at hjq
          cases hjq
          simp only; omega
        · exact hno j q (by omega) hjq
/-! ### what acts do to a disk -/
theorem burnS_W (S : DS) : (burnS S).W = S.W := rfl
theorem wput_ne (k : Int) (u : ByteArray) (W : Wt) : wput k u W ≠ [] := by
  cases W with
  | nil => simp [wput]
  | cons q r => simp only [wput]; split <;> simp
theorem writeR_L (S : DS) (at_ : Int) (u : ByteArray) : (writeR S at_ u).L = S.L := by
  unfold writeR
  split
  · rfl
  · rfl
theorem writeR_dead (S : DS) (at_ : Int) (u : ByteArray) (h : S.dead = true → S.W ≠ []) : (writeR S at_ u).dead = true → (writeR S at_ u).W ≠ [] := by
  unfold writeR
  split
  · intro _
    show wput at_ u S.W ≠ []
    exact wput_ne _ _ _
  · exact h
theorem fuseS_L (S : DS) (n : Int) : (fuseS S n).L = S.L := by unfold fuseS; split <;> rfl
theorem fuseS_W (S : DS) (n : Int) : (fuseS S n).W = S.W := by unfold fuseS; split <;> rfl
theorem fuseS_dead (S : DS) (n : Int) : (fuseS S n).dead = S.dead := by unfold fuseS; split <;> rfl
theorem flushR_len (S : DS) : (flushR S).L.length = S.L.length := by
  unfold flushR
  split
  · rfl
  · split
    · rfl
    · exact setl_length _ _ _ _
theorem doesR_len (S : DS) (a : A3) : (doesR S a).L.length = S.L.length := by
  unfold doesR
  split
  · rw [writeR_L]
  split
  · exact flushR_len _
  split
  · rw [fuseS_L]
  split
  · rfl
  split
  · exact setl_length _ _ _ _
  split
  · rw [writeR_L]
  · rfl
/-- behind a Restart and a Flush nothing waits -/
theorem rest_flush (S : DS) : flushE (restartS S []) = 0 ∧ flushR (restartS S []) = restartS S [] := ⟨rfl, rfl⟩
/-- writes and fuses: what lasts stays, and a dead disk has something that waits -/
theorem behind_step (S : DS) (a : A3) (ha : a.doo % 7 = 0 ∨ a.doo % 7 = 2) (h : S.dead = true → S.W ≠ []) : (doesR S a).L = S.L ∧ ((doesR S a).dead = true → (doesR S a).W ≠ []) := by
  unfold doesR
  rcases ha with e | e
  · rw [if_pos e]
    exact ⟨writeR_L _ _ _, writeR_dead _ _ _ h⟩
  · rw [if_neg (by omega), if_neg (by omega), if_pos e]
    exact ⟨fuseS_L _ _, by rw [fuseS_W, fuseS_dead]; exact h⟩
/-- what a disk in memory is -/
structure DS.Ok (S : DS) : Prop where
  nd : (S.W.map (·.1)).Nodup
  rng : ∀ q ∈ S.W, 0 ≤ q.1 ∧ q.1 < S.L.length
  wsz : ∀ q ∈ S.W, q.2.size = 4096
  lsz : ∀ i, (pgOf (S.L.getD i none)).size = 4096
theorem DX.ok {w0 w : World} {p bl bw : Nat} {S : DS} (h : DX w0 w p bl bw S) : S.Ok := by
  obtain ⟨ov, h1, _⟩ := h
  refine ⟨h1.nodup, h1.rng, fun q hq => ?_, fun i => ?_⟩
  · obtain ⟨vs, _, _, hw⟩ := h1.waits
    obtain ⟨k, hk, hkq⟩ := List.getElem_of_mem hq
    obtain ⟨v, _, hp⟩ := hw k q (by rw [List.getElem?_eq_getElem hk, hkq])
    exact hp.2
  · rw [List.getD_eq_getElem?_getD]
    cases hi : S.L[i]? with
    | none => exact zp_size 4096
    | some o =>
      obtain ⟨ls, _, _, hl⟩ := h1.lasts
      obtain ⟨v, _, hp⟩ := hl i o hi
      exact pgOf_size hp
theorem wget_at : ∀ (W : Wt) (j : Nat) (k : Int) (u : ByteArray), (W.map (·.1)).Nodup → W[j]? = some (k, u) → wget k W = some u
  | [], j, k, u, _, h => by simp at h
  | q :: r, 0, k, u, _, h => by
    simp only [List.getElem?_cons_zero, Option.some.injEq] at h
    subst h
    simp [wget]
  | q :: r, j + 1, k, u, hn, h => by
    rw [List.map_cons, List.nodup_cons] at hn
    rw [List.getElem?_cons_succ] at h
    have hm : k ∈ r.map (·.1) := List.mem_map.2 ⟨_, List.mem_of_getElem? h, rfl⟩
    have hne : q.1 ≠ k := fun e => hn.1 (by rw [e]; exact hm)
    unfold wget
    rw [if_neg (fun e => hne e.symm)]
    exact wget_at r j k u hn.2 h
theorem wget_no (k : Int) : ∀ W : Wt, (∀ (j : Nat) q, j < W.length → W[j]? = some q → q.1 ≠ k) → wget k W = none
  | [], _ => rfl
  | q :: r, h => by
    have hne : q.1 ≠ k := h 0 q (by simp) rfl
    unfold wget
    rw [if_neg (fun e => hne e.symm)]
    exact wget_no k r (fun j q' hj hq => h (j + 1) q' (by simpa using hj) (by rw [List.getElem?_cons_succ]; exact hq))
theorem mix_sec (f : Int) (was now : ByteArray) (h : was.size = 4096) (hn : now.size = 4096) (j : Nat) (hj : j < 8) :
    (mix f was now 8).extract (512 * j) (512 * j + 512) = if bitv f j = true then now.extract (512 * j) (512 * j + 512) else was.extract (512 * j) (512 * j + 512) := by
  have key : ∀ k, k < 512 → (Lib.strCells (mix f was now 8))[512 * j + k]? = if bitv f j = true then (Lib.strCells now)[512 * j + k]? else (Lib.strCells was)[512 * j + k]? := fun k hk => by
    rw [mix_get f was now h hn _ (by omega) 8 (Nat.le_refl _), show (512 * j + k) / 512 = j by omega]
    by_cases hb : bitv f j = true
    · rw [if_pos ⟨hj, hb⟩, if_pos hb]
    · rw [if_neg (fun h => hb h.2), if_neg hb]
  by_cases hb : bitv f j = true
  · rw [if_pos hb]
    apply ba_of_cells
    rw [strCells_ext, strCells_ext]
    refine List.ext_getElem? fun k => ?_
    rw [List.getElem?_take, List.getElem?_take]
    split
    · rw [List.getElem?_drop, List.getElem?_drop, key k (by omega), if_pos hb]
    · rfl
  · rw [if_neg hb]
    apply ba_of_cells
    rw [strCells_ext, strCells_ext]
    refine List.ext_getElem? fun k => ?_
    rw [List.getElem?_take, List.getElem?_take]
    split
    · rw [List.getElem?_drop, List.getElem?_drop, key k (by omega), if_neg hb]
    · rfl
/-- a page behind a Restart -/
theorem restart_page {S : DS} (h : S.Ok) (l : List Int) (i : Nat) :
    (∃ j, readP (restartS S l) i = mix (fateF l j) (pgOf (S.L.getD i none)) (readP S i) 8 ∧ (readP S i).size = 4096) ∨ (readP (restartS S l) i = pgOf (S.L.getD i none) ∧ readP S i = pgOf (S.L.getD i none)) := by
  have e : readP (restartS S l) i = pgOf ((setl (fateF l) S.W S.L S.W.length).getD i none) := rfl
  have e2 : readP S i = (wget i S.W).getD (pgOf (S.L.getD i none)) := rfl
  rcases setl_get (fateF l) S.W S.L h.nd h.rng i S.W.length (Nat.le_refl _) with ⟨j, u, hj, hu, hs⟩ | ⟨hno, hs⟩
  · have hw := wget_at S.W j i u h.nd hu
    refine .inl ⟨j, ?_, ?_⟩
    · rw [e, e2, hw, Option.getD_some, List.getD_eq_getElem?_getD, hs]; rfl
    · rw [e2, hw]; exact h.wsz _ (List.mem_of_getElem? hu)
  · refine .inr ⟨?_, ?_⟩
    · rw [e, List.getD_eq_getElem?_getD, hs, ← List.getD_eq_getElem?_getD]
    · rw [e2, wget_no _ _ hno]; rfl
theorem sectors_ok {S : DS} (h : S.Ok) (l : List Int) (i j : Nat) (hj : j < 8) :
    (readP (restartS S l) i).extract (512 * j) (512 * j + 512) = (pgOf (S.L.getD i none)).extract (512 * j) (512 * j + 512) ∨ (readP (restartS S l) i).extract (512 * j) (512 * j + 512) = (readP S i).extract (512 * j) (512 * j + 512) := by
  rcases restart_page h l i with ⟨k, e, hs⟩ | ⟨e, _⟩
  · rw [e, mix_sec _ _ _ (h.lsz i) hs j hj]
    split
    · exact .inr rfl
    · exact .inl rfl
  · exact .inl (by rw [e])
/-- no fates: as it lasted -/
theorem restart_none {S : DS} (h : S.Ok) (i : Nat) : readP (restartS S []) i = pgOf (S.L.getD i none) := by
  rcases restart_page h [] i with ⟨k, e, _⟩ | ⟨e, _⟩
  · rw [e]; exact mix_zero _ _ _
  · exact e
theorem read_empty (S : DS) (hW : S.W = []) (i : Nat) : readP S i = pgOf (S.L.getD i none) := by
  show (wget i S.W).getD _ = _
  rw [hW]; rfl
end Go.Proofs.Ytpclfnamknioaaa
