/- The store's law over numbers and bytes: heads, what a flush leaves, what is there when the power comes again. No walk here. The store's law over numbers and bytes: Open's answer; what is read behind a flush and behind a Restart. No walk here. The store's law over numbers and bytes: what a Commit leaves, and what is there when the power comes again. No walk here. The store's law over numbers and bytes: Commit. No walk here. The store's law over numbers and bytes: Commit, whole; Open. No walk here. The store's law over numbers and bytes: the acts of a change; Open. No walk here. -/
import Derived.Test.YtlmngghkhnnaeaaQFlu
import Derived.Test.YtlmngghkhnnaeaaQHd5
import Derived.Test.YtlmngghkhnnaeaaQMCom
namespace Go.Proofs.Ytlmngghkhnnaeaa
set_option maxRecDepth 100000
set_option linter.unusedVariables false
set_option linter.unusedSimpArgs false
/-! ### heads -/
theorem getD_list {s : ByteArray} {i : Nat} : s.data.toList.getD i 0 = ((at? s i).getD 0) := by
  rw [List.getD_eq_getElem?_getD]; rfl
theorem bitsB_byte (t : List Bool) (k : Nat) (hk : k < bitsN t.length) : at? (bitsB t) k = some (UInt8.ofNat (bitV t k t.length)) := by
  unfold at? bitsB bitsJ
  simp only [List.getElem?_map]
  rw [List.getElem?_range hk]; rfl
theorem decB_hd (s : St) (p : Nat) (hp : p < s.taken.length) : decB (hdBytes s) p = s.taken.getD p false := by
  unfold decB hdBytes
  rw [getD_list, at_append, be8_size, if_neg (by omega), show 8 + p / 8 - 8 = p / 8 by omega, bitsB_byte _ _ (by unfold bitsN; omega), Option.getD_some]
  have h1 := bitV_lt s.taken (p / 8) s.taken.length
  have h2 : (UInt8.ofNat (bitV s.taken (p / 8) s.taken.length)).toNat = bitV s.taken (p / 8) s.taken.length := by
    simp; omega
  rw [h2, bitV_test _ _ _ (by omega), show 8 * (p / 8) + p % 8 = p by omega, decide_eq_true hp, Bool.true_and]
theorem decL_hd (s : St) : decL (hdBytes s) s.taken.length = s.taken := by
  apply List.ext_getElem?
  intro i
  unfold decL
  rw [List.getElem?_map]
  by_cases h : i < s.taken.length
  · rw [List.getElem?_range h, Option.map_some, decB_hd s i h, List.getD_eq_getElem?_getD, List.getElem?_eq_getElem h]; rfl
  · rw [List.getElem?_eq_none (by rw [List.length_range]; omega), List.getElem?_eq_none (by omega)]; rfl
theorem rootB_hd (s : St) (h0 : 0 ≤ s.root) (h1 : s.root ≤ 18446744073709551615) : rootB (hdBytes s) = s.root := by
  unfold rootB
  rw [rd_val _ _ (by unfold hdBytes; rw [size_append, be8_size]; omega)]
  have : (hdBytes s).extract 0 8 = be8 s.root := by
    apply ba_at
    intro i
    unfold hdBytes
    rw [at_extract, at_append, be8_size]
    by_cases hi : i < 8
    · rw [if_pos (by omega), if_pos (by omega), Nat.zero_add]
    · rw [if_neg (by omega), (at_none _ _).2 (by rw [be8_size]; omega)]
  rw [this, be8_valB _ h0 h1]
/-- may a state be written to a head? -/
def RootOk (s : St) : Prop := s.taken.getD 0 false = false ∧ s.taken.getD 1 false = false ∧ (s.root = 0 ∨ hasB s.taken s.root = true)
theorem head_round (s : St) (h4 : s.taken.length ≤ 4096) (hr : 0 ≤ s.root ∧ s.root < s.taken.length) (hok : RootOk s) : headF (hdBytes s) s.taken.length = some ⟨s.root, s.taken, List.replicate s.taken.length false, [], false⟩ := by
  have e1 := rootB_hd s hr.1 (by omega)
  have e2 := decL_hd s
  have e3 : (hdBytes s).size = 8 + bitsN s.taken.length := by unfold hdBytes bitsB; rw [size_append, be8_size, bitsJ_size]
  unfold headF
  rw [e1, e2, if_pos]
  refine ⟨⟨e3, hr.2⟩, ?_⟩
  unfold okB
  rw [e1, e2]
  have e4 : (hdBytes s).extract 8 (hdBytes s).size = bitsB s.taken := by
    apply ba_at
    intro i
    rw [at_extract, e3]
    unfold hdBytes
    rw [at_append, be8_size]
    by_cases hi : i < 8 + bitsN s.taken.length - 8
    · rw [if_pos hi, if_neg (by omega), show 8 + i - 8 = i by omega]
    · rw [if_neg hi, (at_none _ _).2 (by unfold bitsB; rw [bitsJ_size]; omega)]
  rw [e4, decide_eq_true rfl, hok.1, hok.2.1]
  rcases hok.2.2 with e | e
  · rw [e]; rfl
  · rw [e]; simp
/-! ### what a flush leaves on the disk -/
theorem pgW_L (S : SS) (D : DS) (k : Int) : (pgW S D k).L = D.L := rfl
theorem flL_L (S : SS) : ∀ (l : List Int) (D : DS), (flL S l D).1.L = D.L
  | [], D => rfl
  | k :: l, D => by
    unfold flL
    by_cases h : (pgW S D k).dead = true
    · rw [if_pos h]; rfl
    · rw [if_neg h, flL_L S l]; rfl
theorem wget_wput (k x : Int) (u : ByteArray) : ∀ W : Wt, wget x (wput k u W) = if x = k then some u else wget x W
  | [] => by
    by_cases h : x = k <;> simp [wput, wget, h]
  | q :: W => by
    have ih := wget_wput k x u W
    by_cases hk : k = q.1
    · simp only [wput, if_pos hk]
      by_cases h : x = k
      · simp [wget, h]
      · have : ¬ x = q.1 := fun e => h (e.trans hk.symm)
        simp [wget, h, this]
    · simp only [wput, if_neg hk]
      by_cases hx : x = q.1
      · have : ¬ x = k := fun e => hk (e.symm.trans hx)
        simp [wget, hx]
        intro e; exact absurd (e.symm.trans rfl) (fun e' => hk (by rw [← e']))
      · simp only [wget, if_neg hx]; exact ih
/-- the frame of a page of the change -/
def pgFr (S : SS) (k : Int) : ByteArray := frP k 2 S.stamp ((wget k S.st.fresh).getD ByteArray.empty)
theorem flL_W (S : SS) : ∀ (l : List Int) (D : DS) (x : Int), wget x (flL S l D).1.W = wget x D.W ∨ (x ∈ l ∧ wget x (flL S l D).1.W = some (pgFr S x))
  | [], D, x => .inl rfl
  | k :: l, D, x => by
    have e1 : wget x (pgW S D k).W = if x = k then some (pgFr S k) else wget x D.W := by
      show wget x (wput k _ D.W) = _
      rw [wget_wput]; rfl
    unfold flL
    by_cases h : (pgW S D k).dead = true
    · rw [if_pos h]
      simp only
      rw [e1]
      by_cases hx : x = k
      · rw [if_pos hx, hx]; exact .inr ⟨List.mem_cons_self, rfl⟩
      · rw [if_neg hx]; exact .inl rfl
    · rw [if_neg h]
      rcases flL_W S l (pgW S D k) x with e | ⟨e, e'⟩
      · rw [e, e1]
        by_cases hx : x = k
        · rw [if_pos hx, hx]; exact .inr ⟨List.mem_cons_self, rfl⟩
        · rw [if_neg hx]; exact .inl rfl
      · exact .inr ⟨List.mem_cons_of_mem _ e, e'⟩
theorem flL_all (S : SS) : ∀ (l : List Int) (D : DS), (flL S l D).2 = true → ∀ x ∈ l, wget x (flL S l D).1.W = some (pgFr S x)
  | [], D, _, x, hx => by cases hx
  | k :: l, D, h, x, hx => by
    have e1 : wget x (pgW S D k).W = if x = k then some (pgFr S k) else wget x D.W := by
      show wget x (wput k _ D.W) = _
      rw [wget_wput]; rfl
    unfold flL at h ⊢
    by_cases hd : (pgW S D k).dead = true
    · rw [if_pos hd] at h; cases h
    · rw [if_neg hd] at h ⊢
      by_cases hxl : x ∈ l
      · exact flL_all S l _ h x hxl
      · have hxk : x = k := (List.mem_cons.1 hx).resolve_right hxl
        rcases flL_W S l (pgW S D k) x with e | ⟨e, _⟩
        · rw [e, e1, if_pos hxk, hxk]
        · exact absurd e hxl
end Go.Proofs.Ytlmngghkhnnaeaa
namespace Go.Proofs.Ytlmngghkhnnaeaa
set_option maxRecDepth 100000
set_option linter.unusedVariables false
set_option linter.unusedSimpArgs false
/-! ### Open -/
def zeroSt (n : Nat) : St := ⟨0, List.replicate n false, List.replicate n false, [], false⟩
structure OpS where
  st : St
  head : Int
  best : Int
  stamp : Int
def op0 (n : Nat) : OpS := ⟨zeroSt n, -1, 0, 0⟩
def opStep (R : Int → ByteArray) (n : Nat) (p : Int) (o : OpS) : OpS :=
  match getF (R p) p 1 with
  | none => { o with stamp := max o.stamp (newF (R p) 8) }
  | some (b, s) => if s ≤ o.best then { o with stamp := max o.stamp (newF (R p) 8) } else
    match headF b n with
    | none => { o with stamp := max o.stamp (newF (R p) 8) }
    | some t => ⟨t, p, s, max o.stamp (newF (R p) 8)⟩
def openO (R : Int → ByteArray) (n : Nat) : OpS := opStep R n 1 (opStep R n 0 (op0 n))
def badH (R : Int → ByteArray) (n : Nat) (h : Int) : Prop := ∀ b s, getF (R h) h 1 = some (b, s) → headF b n = none
def isH (h : Int) : Prop := h = 0 ∨ h = 1
structure Heads (R : Int → ByteArray) (n : Nat) (was : St) (head stamp : Int) : Prop where
  le : ∀ h, isH h → ∀ j, j < 8 → (stampAt (R h) j : Int) ≤ stamp
  force : (head = -1 ∧ was = zeroSt n ∧ ∀ h, isH h → badH R n h) ∨
    (isH head ∧ ∃ b s, getF (R head) head 1 = some (b, s) ∧ headF b n = some was ∧ ∀ h, isH h → h ≠ head → ∀ b' s' t, getF (R h) h 1 = some (b', s') → headF b' n = some t → s' < s)
theorem opStep_stamp (R : Int → ByteArray) (n : Nat) (p : Int) (o : OpS) : (opStep R n p o).stamp = max o.stamp (newF (R p) 8) := by
  unfold opStep
  split
  · rfl
  · split
    · rfl
    · split <;> rfl
theorem opStep_bad {R : Int → ByteArray} {n : Nat} {p : Int} (o : OpS) (h : badH R n p) : (opStep R n p o).st = o.st ∧ (opStep R n p o).head = o.head ∧ (opStep R n p o).best = o.best := by
  unfold opStep
  split
  · exact ⟨rfl, rfl, rfl⟩
  · rename_i b s hg
    split
    · exact ⟨rfl, rfl, rfl⟩
    · rw [h b s hg]; exact ⟨rfl, rfl, rfl⟩
theorem opStep_take {R : Int → ByteArray} {n : Nat} {p : Int} (o : OpS) {b : ByteArray} {s : Int} {t : St} (hg : getF (R p) p 1 = some (b, s)) (hh : headF b n = some t) (hs : o.best < s) : (opStep R n p o).st = t ∧ (opStep R n p o).head = p ∧ (opStep R n p o).best = s := by
  unfold opStep
  rw [hg]
  simp only
  rw [if_neg (by omega), hh]
  exact ⟨rfl, rfl, rfl⟩
theorem opStep_low {R : Int → ByteArray} {n : Nat} {p : Int} (o : OpS) (h : ∀ b s t, getF (R p) p 1 = some (b, s) → headF b n = some t → s ≤ o.best) : (opStep R n p o).st = o.st ∧ (opStep R n p o).head = o.head ∧ (opStep R n p o).best = o.best := by
  unfold opStep
  cases hg : getF (R p) p 1 with
  | none => exact ⟨rfl, rfl, rfl⟩
  | some q =>
    obtain ⟨b, s⟩ := q
    simp only
    by_cases hle : s ≤ o.best
    · rw [if_pos hle]; exact ⟨rfl, rfl, rfl⟩
    · rw [if_neg hle]
      cases hh : headF b n with
      | none => exact ⟨rfl, rfl, rfl⟩
      | some t => exact absurd (h b s t hg hh) hle
theorem openO_stamp (R : Int → ByteArray) (n : Nat) : (openO R n).stamp = max (max 0 (newF (R 0) 8 : Int)) (newF (R 1) 8) := by
  unfold openO
  rw [opStep_stamp, opStep_stamp]; rfl
theorem open_heads {R : Int → ByteArray} {n : Nat} {was : St} {head stamp : Int} (h0 : 0 ≤ stamp) (h : Heads R n was head stamp) :
    (openO R n).st = was ∧ (openO R n).head = head ∧ (openO R n).stamp ≤ stamp ∧ 0 ≤ (openO R n).stamp ∧ Heads R n was head (openO R n).stamp := by
  have i0 : isH 0 := .inl rfl
  have i1 : isH 1 := .inr rfl
  have key : (openO R n).st = was ∧ (openO R n).head = head := by
    rcases h.force with ⟨rfl, rfl, hb⟩ | ⟨hh, b, s, hg, hf, ho⟩
    · have a1 := opStep_bad (op0 n) (hb 0 i0)
      have a2 := opStep_bad (opStep R n 0 (op0 n)) (hb 1 i1)
      exact ⟨a2.1.trans a1.1, a2.2.1.trans a1.2.1⟩
    · have hs1 : 1 ≤ s := (get_some hg).2.1
      rcases hh with rfl | rfl
      · have a1 := opStep_take (op0 n) hg hf (by show (0 : Int) < s; omega)
        have a2 := opStep_low (opStep R n 0 (op0 n)) (p := 1) (R := R) (n := n) (fun b' s' t h1 h2 => by have := ho 1 i1 (by decide) b' s' t h1 h2; rw [a1.2.2]; omega)
        exact ⟨a2.1.trans a1.1, a2.2.1.trans a1.2.1⟩
      · have hlt : (opStep R n 0 (op0 n)).best < s := by
          unfold opStep
          split
          · show (0 : Int) < s; omega
          · rename_i b' s' hg'
            split
            · show (0 : Int) < s; omega
            · split
              · show (0 : Int) < s; omega
              · rename_i t hh'
                exact ho 0 i0 (by decide) b' s' t hg' hh'
        have a2 := opStep_take (opStep R n 0 (op0 n)) hg hf hlt
        exact ⟨a2.1, a2.2.1⟩
  have hn : ∀ h, isH h → (newF (R h) 8 : Int) ≤ stamp := by
    intro x hx
    have := newF_le (R x) stamp.toNat 8 (fun j hj => by have := h.le x hx j hj; omega)
    omega
  have hst : (openO R n).stamp ≤ stamp ∧ 0 ≤ (openO R n).stamp := by
    rw [openO_stamp]
    have := hn 0 i0
    have := hn 1 i1
    omega
  refine ⟨key.1, key.2, hst.1, hst.2, ⟨fun x hx j hj => ?_, h.force⟩⟩
  have h1 := le_newF (R x) 8 j hj
  rw [openO_stamp]
  rcases hx with rfl | rfl <;> omega
/-! ### pages -/
theorem mix_full (was now : ByteArray) (h : was.size = 4096) (hn : now.size = 4096) : mix 255 was now 8 = now := by
  apply ba_at
  intro i
  by_cases hi : i < 4096
  · have hb : bitv 255 (i / 512) = true := by
      have : i / 512 < 8 := by omega
      match i / 512, this with
      | 0, _ => decide
      | 1, _ => decide
      | 2, _ => decide
      | 3, _ => decide
      | 4, _ => decide
      | 5, _ => decide
      | 6, _ => decide
      | 7, _ => decide
    rw [at_mix 255 was now h hn 8 (Nat.le_refl _) i hi, if_pos ⟨by omega, hb⟩]
  · rw [(at_none _ _).2 (by rw [mix_size 255 was now h hn 8 (Nat.le_refl _)]; omega), (at_none _ _).2 (by omega)]
theorem wget_of_mem {x : Int} {u : ByteArray} : ∀ {W : Wt}, (W.map (·.1)).Nodup → (x, u) ∈ W → wget x W = some u
  | [], _, h => by cases h
  | q :: W, hn, h => by
    simp only [List.map_cons, List.nodup_cons] at hn
    rcases List.mem_cons.1 h with rfl | h
    · simp [wget]
    · have : ¬ x = q.1 := fun e => hn.1 (by rw [← e]; exact List.mem_map_of_mem (f := (·.1)) h)
      simp only [wget, if_neg this]
      exact wget_of_mem hn.2 h
/-- a disk that is well laid -/
structure DOk (D : DS) (n : Nat) : Prop where
  len : D.L.length = n
  size : ∀ i, i < n → (pgOf (D.L.getD i none)).size = 4096
  nodup : (D.W.map (·.1)).Nodup
  rng : ∀ q ∈ D.W, 0 ≤ q.1 ∧ q.1 < n ∧ q.2.size = 4096
def lastP (D : DS) (x : Int) : ByteArray := pgOf (D.L.getD x.toNat none)
theorem readP_eq (D : DS) (x : Int) : readP D x = (wget x D.W).getD (lastP D x) := rfl
theorem wget_some_mem {x : Int} {u : ByteArray} : ∀ {W : Wt}, wget x W = some u → (x, u) ∈ W
  | [], h => by cases h
  | q :: W, h => by
    by_cases hx : x = q.1
    · simp only [wget, if_pos hx, Option.some.injEq] at h
      rw [hx, ← h]; exact List.mem_cons_self
    · simp only [wget, if_neg hx] at h
      exact List.mem_cons_of_mem _ (wget_some_mem h)
theorem DOk.readSize {D : DS} {n : Nat} (h : DOk D n) {x : Int} (h0 : 0 ≤ x) (h1 : x < n) : (readP D x).size = 4096 := by
  rw [readP_eq]
  cases hw : wget x D.W with
  | none => exact h.size _ (by omega)
  | some u => exact (h.rng _ (wget_some_mem hw)).2.2
/-- the page behind all that waits is settled -/
theorem settle_get {D : DS} {n : Nat} (h : DOk D n) (f : Nat → Int) {x : Int} (h0 : 0 ≤ x) (h1 : x < n) :
    (wget x D.W = none ∧ pgOf ((setl f D.W D.L D.W.length).getD x.toNat none) = lastP D x) ∨ ∃ j u, wget x D.W = some u ∧ u.size = 4096 ∧ pgOf ((setl f D.W D.L D.W.length).getD x.toNat none) = mix (f j) (lastP D x) u 8 := by
  obtain ⟨k, rfl⟩ : ∃ k : Nat, x = k := ⟨x.toNat, by omega⟩
  simp only [Int.toNat_natCast]
  have hr : ∀ q ∈ D.W, 0 ≤ q.1 ∧ q.1 < D.L.length := fun q hq => ⟨(h.rng q hq).1, by rw [h.len]; exact (h.rng q hq).2.1⟩
  rcases setl_get f D.W D.L h.nodup hr k D.W.length (Nat.le_refl _) with ⟨j, u, _, hj, hs⟩ | ⟨hno, hs⟩
  · right
    have hm := List.mem_of_getElem? hj
    refine ⟨j, u, wget_of_mem h.nodup hm, (h.rng _ hm).2.2, ?_⟩
    rw [List.getD_eq_getElem?_getD, hs]; rfl
  · left
    refine ⟨?_, ?_⟩
    · cases hw : wget (k : Int) D.W with
      | none => rfl
      | some u =>
        obtain ⟨i, hi⟩ := List.mem_iff_getElem?.1 (wget_some_mem hw)
        exact absurd rfl (hno i _ (List.getElem?_eq_some_iff.1 hi).1 hi)
    · rw [List.getD_eq_getElem?_getD, hs, lastP, List.getD_eq_getElem?_getD]; rfl
theorem DOk.lastSize {D : DS} {n : Nat} (h : DOk D n) {x : Int} (h0 : 0 ≤ x) (h1 : x < n) : (lastP D x).size = 4096 := h.size _ (by omega)
/-- what is settled is well laid -/
theorem DOk.settle {D D' : DS} {n : Nat} (h : DOk D n) (f : Nat → Int) (hL : D'.L = setl f D.W D.L D.W.length) (hW : D'.W = []) : DOk D' n := by
  refine ⟨by rw [hL, setl_length, h.len], fun i hi => ?_, by rw [hW]; simp, fun q hq => by rw [hW] at hq; cases hq⟩
  have h1 := settle_get h f (x := (i : Int)) (by omega) (by omega)
  have hs := h.lastSize (x := (i : Int)) (by omega) (by omega)
  simp only [Int.toNat_natCast] at h1
  rw [hL]
  rcases h1 with ⟨_, e⟩ | ⟨j, u, _, hu, e⟩
  · rw [e]; exact hs
  · rw [e]; exact mix_size _ _ _ hs hu 8 (Nat.le_refl _)
theorem flushR_ok {D : DS} (hd : D.dead = false) (hb : (burnS D).dead = false) : flushR D = { burnS D with L := setl (fun _ => 255) D.W D.L D.W.length, W := [] } := by
  unfold flushR
  rw [if_neg (by rw [hd]; decide), if_neg (by rw [hb]; decide)]
/-- a flush changes nothing that is read -/
theorem flush_read {D : DS} {n : Nat} (h : DOk D n) (hd : D.dead = false) (hb : (burnS D).dead = false) {x : Int} (h0 : 0 ≤ x) (h1 : x < n) : readP (flushR D) x = readP D x := by
  rw [flushR_ok hd hb, readP_eq, readP_eq]
  show pgOf ((setl (fun _ => 255) D.W D.L D.W.length).getD x.toNat none) = _
  rcases settle_get h (fun _ => 255) h0 h1 with ⟨e1, e2⟩ | ⟨j, u, e1, hu, e2⟩
  · rw [e1, e2]; rfl
  · rw [e1, e2, mix_full _ _ (h.lastSize h0 h1) hu]; rfl
theorem DOk.flush {D : DS} {n : Nat} (h : DOk D n) (hd : D.dead = false) (hb : (burnS D).dead = false) : DOk (flushR D) n := h.settle (fun _ => 255) (by rw [flushR_ok hd hb]) (by rw [flushR_ok hd hb])
theorem DOk.burn {D : DS} {n : Nat} (h : DOk D n) : DOk (burnS D) n := ⟨h.len, h.size, h.nodup, h.rng⟩
theorem DOk.write {D : DS} {n : Nat} (h : DOk D n) {x : Int} {u : ByteArray} (h0 : 0 ≤ x) (h1 : x < n) (hu : u.size = 4096) : DOk (writeS D x u) n := by
  refine ⟨h.len, h.size, wput_nodup _ _ _ h.nodup, fun q hq => ?_⟩
  rcases wput_mem _ _ _ _ hq with rfl | hq
  · exact ⟨h0, h1, hu⟩
  · exact h.rng q hq
theorem write_read (D : DS) (x k : Int) (u : ByteArray) : readP (writeS D k u) x = if x = k then u else readP D x := by
  rw [readP_eq, readP_eq]
  show (wget x (wput k u D.W)).getD (lastP D x) = _
  rw [wget_wput]
  by_cases h : x = k
  · rw [if_pos h, if_pos h]; rfl
  · rw [if_neg h, if_neg h]
theorem DOk.restart {D : DS} {n : Nat} (h : DOk D n) (l : List Int) : DOk (restartS D l) n := h.settle (fateF l) rfl rfl
theorem restart_read {D : DS} {n : Nat} (h : DOk D n) (l : List Int) {x : Int} (h0 : 0 ≤ x) (h1 : x < n) :
    (wget x D.W = none ∧ readP (restartS D l) x = lastP D x) ∨ ∃ j u, wget x D.W = some u ∧ u.size = 4096 ∧ readP (restartS D l) x = mix (fateF l j) (lastP D x) u 8 := by
  rw [readP_eq]
  exact settle_get h (fateF l) h0 h1
end Go.Proofs.Ytlmngghkhnnaeaa
namespace Go.Proofs.Ytlmngghkhnnaeaa
set_option maxRecDepth 100000
set_option linter.unusedVariables false
set_option linter.unusedSimpArgs false
structure Disc (D : DS) (n : Nat) (was : St) (head stamp : Int) : Prop where
  ok : DOk D n
  W : D.W = []
  heads : Heads (readP D) n was head stamp
  pages : ∀ x, hasB was.taken x = true → ∃ b s, getF (readP D x) x 2 = some (b, s)
  clean : was = doneSt was
  len : was.taken.length = n
  root : RootOk was ∧ 0 ≤ was.root ∧ was.root < n
structure OkSt (n : Nat) (was s : St) : Prop where
  len : s.taken.length = n
  hlen : s.held.length = n
  root : RootOk s ∧ 0 ≤ s.root ∧ s.root < n
  old : ∀ x, hasB s.taken x = true → wget x s.fresh = none → hasB was.taken x = true
  keep : ∀ x, hasB was.taken x = true → wget x s.fresh = none ∧ (hasB s.taken x = true ∨ (hasB s.taken x = false ∧ s.held.getD x.toNat false = true))
  new : ∀ x u, wget x s.fresh = some u → hasB s.taken x = true ∧ u.size ≤ 4011
  nodup : (s.fresh.map (·.1)).Nodup
  still : s.touched = false → s.taken = was.taken ∧ s.root = was.root ∧ s.fresh = []
structure Inv (S : SS) (n : Nat) : Prop where
  n4 : 4 ≤ n ∧ n ≤ 4096
  alive : S.dead = false ∧ S.D.dead = false
  stamp : 0 ≤ S.stamp
  disc : Disc S.D n S.was S.head S.stamp
  st : OkSt n S.was S.st
  marks : ∀ m ∈ S.marks, OkSt n S.was m
/-- a page's bytes -/
def cont (D : DS) (s : St) (x : Int) : Option ByteArray := if hasB s.taken x = true then (match wget x s.fresh with | some u => some u | none => (getF (readP D x) x 2).map (·.1)) else none
theorem Heads.congr {R R' : Int → ByteArray} {n : Nat} {was : St} {head stamp stamp' : Int} (h : Heads R n was head stamp) (he : ∀ x, isH x → R' x = R x) (hs : stamp ≤ stamp') : Heads R' n was head stamp' := by
  refine ⟨fun x hx j hj => by rw [he x hx]; have := h.le x hx j hj; omega, ?_⟩
  rcases h.force with ⟨h1, h2, h3⟩ | ⟨h1, b, s, h2, h3, h4⟩
  · exact .inl ⟨h1, h2, fun x hx b s hg => h3 x hx b s (by rw [← he x hx]; exact hg)⟩
  · exact .inr ⟨h1, b, s, by rw [he _ h1]; exact h2, h3, fun x hx hne b' s' t hg hf => h4 x hx hne b' s' t (by rw [← he x hx]; exact hg) hf⟩
theorem burn_neg {D : DS} (h : D.fuse < 0) : (burnS D).dead = D.dead ∧ (burnS D).fuse = D.fuse := by
  unfold burnS
  have h1 : (D.fuse == 0) = false := by simp; omega
  simp [h1]; omega
theorem burn_dead {D : DS} (h : D.dead = true) : (burnS D).dead = true := by unfold burnS; simp [h]
theorem write_neg {D : DS} (x : Int) (u : ByteArray) (h : D.fuse < 0) : (writeS D x u).dead = D.dead ∧ (writeS D x u).fuse = D.fuse := burn_neg (D := { D with W := wput x u D.W }) h
theorem flL_neg (S : SS) : ∀ (l : List Int) (D : DS), D.fuse < 0 → D.dead = false → (flL S l D).2 = true ∧ (flL S l D).1.fuse = D.fuse ∧ (flL S l D).1.dead = false
  | [], D, h, hd => ⟨rfl, rfl, hd⟩
  | k :: l, D, h, hd => by
    have h1 := write_neg k (pgFr S k) h
    have e : pgW S D k = writeS D k (pgFr S k) := rfl
    rw [← e] at h1
    unfold flL
    rw [if_neg (by rw [h1.1, hd]; decide)]
    have := flL_neg S l (pgW S D k) (by rw [h1.2]; exact h) (by rw [h1.1]; exact hd)
    exact ⟨this.1, by rw [this.2.1, h1.2], this.2.2⟩
theorem flL_dead (S : SS) : ∀ (l : List Int) (D : DS), D.dead = false → (flL S l D).1.dead = !(flL S l D).2
  | [], D, hd => by simp [flL, hd]
  | k :: l, D, hd => by
    unfold flL
    by_cases h : (pgW S D k).dead = true
    · rw [if_pos h]; simpa using h
    · rw [if_neg h]; exact flL_dead S l _ (by simpa using h)
theorem flL_ok {n : Nat} (S : SS) : ∀ (l : List Int) (D : DS), DOk D n → (∀ k ∈ l, 0 ≤ k ∧ k < n ∧ (pgFr S k).size = 4096) → DOk (flL S l D).1 n
  | [], D, h, _ => h
  | k :: l, D, h, hk => by
    have h1 := hk k List.mem_cons_self
    have e : pgW S D k = writeS D k (pgFr S k) := rfl
    have h2 : DOk (pgW S D k) n := by rw [e]; exact h.write h1.1 h1.2.1 h1.2.2
    unfold flL
    by_cases hd : (pgW S D k).dead = true
    · rw [if_pos hd]; exact h2
    · rw [if_neg hd]; exact flL_ok S l _ h2 (fun x hx => hk x (List.mem_cons_of_mem _ hx))
theorem hasB_eq {l : List Bool} {x : Int} (h : hasB l x = true) : 2 ≤ x ∧ x < l.length ∧ l.getD x.toNat false = true := by
  unfold hasB at h
  simp only [Bool.and_eq_true, decide_eq_true_eq] at h
  exact ⟨h.1, h.2.1, h.2.2⟩
section
variable {S : SS} {n : Nat} {L : List Int}
/-- the keys that are written -/
theorem Inv.keys (h : Inv S n) (hL : L.Perm (S.st.fresh.map (·.1))) : ∀ k ∈ L, 2 ≤ k ∧ k < n ∧ hasB S.was.taken k = false ∧ ∃ u, wget k S.st.fresh = some u ∧ u.size ≤ 4011 := by
  intro k hk
  obtain ⟨u, hu, _⟩ := wget_mem k _ (hL.mem_iff.1 hk)
  obtain ⟨h1, h2⟩ := h.st.new k u hu
  obtain ⟨h3, h4, _⟩ := hasB_eq h1
  refine ⟨h3, by rw [h.st.len] at h4; exact h4, ?_, u, hu, h2⟩
  cases hw : hasB S.was.taken k with
  | false => rfl
  | true => have := (h.st.keep k hw).1; rw [hu] at this; cases this
theorem Inv.frame (h : Inv S n) (hL : L.Perm (S.st.fresh.map (·.1))) (k : Int) (hk : k ∈ L) : ∃ u, wget k S.st.fresh = some u ∧ u.size ≤ 4011 ∧ pgFr (flT S) k = frP k 2 (S.stamp + 1) u := by
  obtain ⟨_, _, _, u, hu, hz⟩ := h.keys hL k hk
  refine ⟨u, hu, hz, ?_⟩
  unfold pgFr
  rw [show (flT S).st.fresh = S.st.fresh from rfl, hu]; rfl
theorem Inv.ok1 (h : Inv S n) (hL : L.Perm (S.st.fresh.map (·.1))) : DOk (flL (flT S) L S.D).1 n :=
  flL_ok _ _ _ h.disc.ok (fun k hk => by
    obtain ⟨h1, h2, _⟩ := h.keys hL k hk
    obtain ⟨u, hu, hz, e⟩ := h.frame hL k hk
    exact ⟨by omega, h2, by rw [e]; exact frP_size _ _ _ _ hz⟩)
theorem Inv.last (h : Inv S n) (x : Int) : readP S.D x = lastP S.D x := by rw [readP_eq, h.disc.W]; rfl
theorem Inv.w1 (h : Inv S n) (x : Int) : wget x (flL (flT S) L S.D).1.W = none ∨ (x ∈ L ∧ wget x (flL (flT S) L S.D).1.W = some (pgFr (flT S) x)) := by
  rcases flL_W (flT S) L S.D x with e | e
  · left; rw [e, h.disc.W]; rfl
  · exact .inr e
/-- a death ahead of the head: nothing of it is there -/
theorem Inv.crashA (h : Inv S n) (hL : L.Perm (S.st.fresh.map (·.1))) {D' : DS} (hD : DOk D' n) (hl : D'.L = S.D.L) (hw : ∀ x, wget x D'.W = none ∨ x ∈ L) (l : List Int) :
    Disc (restartS D' l) n S.was S.head (S.stamp + 1) ∧ ∀ x, cont (restartS D' l) S.was x = cont S.D S.was x := by
  have hrd : ∀ x : Int, 0 ≤ x → x < n → x ∉ L → readP (restartS D' l) x = readP S.D x := by
    intro x h0 h1 hx
    have hn : wget x D'.W = none := (hw x).resolve_right hx
    rcases restart_read hD l h0 h1 with ⟨_, e⟩ | ⟨j, u, e, _⟩
    · rw [e, h.last x, lastP, lastP, hl]
    · rw [hn] at e; cases e
  have hold : ∀ x, hasB S.was.taken x = true → readP (restartS D' l) x = readP S.D x := by
    intro x hx
    obtain ⟨h1, h2, _⟩ := hasB_eq hx
    rw [h.disc.len] at h2
    refine hrd x (by omega) h2 (fun hxl => ?_)
    have := (h.keys hL x hxl).2.2.1
    rw [hx] at this; cases this
  have hhd : ∀ x, isH x → readP (restartS D' l) x = readP S.D x := by
    have := h.n4
    intro x hx
    refine hrd x (by rcases hx with rfl | rfl <;> omega) (by rcases hx with rfl | rfl <;> omega) (fun hxl => ?_)
    have := (h.keys hL x hxl).1
    rcases hx with rfl | rfl <;> omega
  refine ⟨⟨hD.restart l, rfl, h.disc.heads.congr hhd (by omega), fun x hx => by rw [hold x hx]; exact h.disc.pages x hx, h.disc.clean, h.disc.len, h.disc.root⟩, fun x => ?_⟩
  unfold cont
  by_cases hx : hasB S.was.taken x = true
  · rw [if_pos hx, if_pos hx, hold x hx]
  · rw [if_neg hx, if_neg hx]
/-- what is read once all pages of the change are written -/
theorem Inv.read2 (h : Inv S n) (hL : L.Perm (S.st.fresh.map (·.1))) (hok : (flL (flT S) L S.D).2 = true) (hb : (burnS (flL (flT S) L S.D).1).dead = false) (x : Int) (h0 : 0 ≤ x) (h1 : x < n) :
    readP (flushR (flL (flT S) L S.D).1) x = match wget x S.st.fresh with | some u => frP x 2 (S.stamp + 1) u | none => readP S.D x := by
  have hd : (flL (flT S) L S.D).1.dead = false := by rw [flL_dead _ _ _ h.alive.2, hok]; rfl
  rw [flush_read (h.ok1 hL) hd hb h0 h1, readP_eq]
  cases hw : wget x S.st.fresh with
  | some u =>
    have hx : x ∈ L := hL.mem_iff.2 (List.mem_map_of_mem (f := (·.1)) (wget_some_mem hw))
    rw [flL_all _ _ _ hok x hx]
    obtain ⟨u', hu', _, e⟩ := h.frame hL x hx
    rw [hw] at hu'; cases hu'
    rw [e]; rfl
  | none =>
    have hx : x ∉ L := fun hx => by
      obtain ⟨u, hu, _⟩ := h.frame hL x hx
      rw [hw] at hu; cases hu
    rw [(h.w1 x).resolve_right (fun e => hx e.1), h.last x, lastP, lastP, flL_L]; rfl
end
end Go.Proofs.Ytlmngghkhnnaeaa
namespace Go.Proofs.Ytlmngghkhnnaeaa
set_option maxRecDepth 100000
set_option linter.unusedVariables false
set_option linter.unusedSimpArgs false
section
variable {S : SS} {n : Nat} {L : List Int}
/-- the pages once those of the change are written -/
def rd2 (S : SS) (x : Int) : ByteArray := match wget x S.st.fresh with | some u => frP x 2 (S.stamp + 1) u | none => readP S.D x
def frH (S : SS) : ByteArray := frP (otherH S) 1 (S.stamp + 1) (hdBytes S.st)
theorem other_isH (S : SS) : isH (otherH S) := by unfold otherH isH; split <;> simp
theorem other_ne (S : SS) : ∀ h, h = S.head → otherH S ≠ h := by
  rintro h rfl
  unfold otherH
  split
  · rename_i e; rw [e]; decide
  · rename_i e; exact fun e' => e e'.symm
theorem Inv.noheads (h : Inv S n) {x : Int} (hx : isH x) : wget x S.st.fresh = none := by
  cases hw : wget x S.st.fresh with
  | none => rfl
  | some u =>
    have := (hasB_eq (h.st.new x u hw).1).1
    rcases hx with rfl | rfl <;> omega
theorem Inv.hdSize (h : Inv S n) : (hdBytes S.st).size ≤ 4011 := hdBytes_size _ (by rw [h.st.len]; exact h.n4.2)
theorem rd2_head (h : Inv S n) {x : Int} (hx : isH x) : rd2 S x = readP S.D x := by unfold rd2; rw [h.noheads hx]
theorem rd2_old (h : Inv S n) {x : Int} (hx : hasB S.was.taken x = true) : rd2 S x = readP S.D x := by unfold rd2; rw [(h.st.keep x hx).1]
theorem hdone (h : Inv S n) : headF (hdBytes S.st) n = some (doneSt S.st) := by
  have := head_round S.st (by rw [h.st.len]; exact h.n4.2) (by rw [h.st.len]; exact h.st.root.2) h.st.root.1
  rw [h.st.len] at this
  rw [this]
  unfold doneSt
  rw [h.st.len]
/-- the head is written: the change is there -/
theorem Inv.discNew (h : Inv S n) (hs : S.stamp + 1 ≤ 18446744073709551615) {D' : DS} (hD : DOk D' n) (hW : D'.W = []) (hr : ∀ x : Int, 0 ≤ x → x < n → readP D' x = if x = otherH S then frH S else rd2 S x) :
    Disc D' n (doneSt S.st) (otherH S) (S.stamp + 1) ∧ ∀ x, cont D' (doneSt S.st) x = cont S.D S.st x := by
  have hst := h.stamp
  have h4 := h.n4
  have hh : ∀ x, isH x → readP D' x = if x = otherH S then frH S else readP S.D x := by
    intro x hx
    rw [hr x (by rcases hx with rfl | rfl <;> omega) (by rcases hx with rfl | rfl <;> omega), rd2_head h hx]
  have hpg : ∀ x, hasB S.st.taken x = true → readP D' x = rd2 S x := by
    intro x hx
    obtain ⟨g1, g2, _⟩ := hasB_eq hx
    rw [h.st.len] at g2
    rw [hr x (by omega) g2, if_neg]
    intro e
    rcases other_isH S with e' | e' <;> omega
  refine ⟨⟨hD, hW, ⟨fun x hx j hj => ?_, .inr ⟨other_isH S, hdBytes S.st, S.stamp + 1, ?_, hdone h, fun x hx hne b' s' t hg _ => ?_⟩⟩, fun x hx => ?_, rfl, h.st.len, ?_⟩, fun x => ?_⟩
  · rw [hh x hx]
    by_cases e : x = otherH S
    · rw [if_pos e]
      have := frP_stamp (otherH S) 1 (S.stamp + 1) (hdBytes S.st) h.hdSize (by omega) hs j hj
      unfold frH; omega
    · rw [if_neg e]; have := h.disc.heads.le x hx j hj; omega
  · rw [hh _ (other_isH S), if_pos rfl]
    exact get_put _ _ _ _ h.hdSize (by omega) hs
  · rw [hh x hx, if_neg hne] at hg
    have h1 := get_stamps hg 0 (by omega)
    have := h.disc.heads.le x hx 0 (by omega)
    omega
  · have hx' : hasB S.st.taken x = true := hx
    rw [hpg x hx']
    unfold rd2
    cases hw : wget x S.st.fresh with
    | some u => exact ⟨u, S.stamp + 1, get_put _ _ _ _ (h.st.new x u hw).2 (by omega) hs⟩
    | none => exact h.disc.pages x (h.st.old x hx' hw)
  · exact h.st.root
  · unfold cont
    show (if hasB S.st.taken x = true then _ else _) = _
    by_cases hx : hasB S.st.taken x = true
    · rw [if_pos hx, if_pos hx, hpg x hx]
      show Option.map _ _ = _
      unfold rd2
      cases hw : wget x S.st.fresh with
      | some u =>
        rw [show getF (frP x 2 (S.stamp + 1) u) x 2 = some (u, S.stamp + 1) from get_put _ _ _ _ (h.st.new x u hw).2 (by omega) hs]
        rfl
      | none => rfl
    · rw [if_neg hx, if_neg hx]
/-- the head is not written, or torn: what was is there -/
theorem Inv.discOld (h : Inv S n) (hs : S.stamp + 1 ≤ 18446744073709551615) {D' : DS} (hD : DOk D' n) (hW : D'.W = []) (hr : ∀ x : Int, 0 ≤ x → x < n → x ≠ otherH S → readP D' x = rd2 S x)
    (ho : readP D' (otherH S) = readP S.D (otherH S) ∨ (getF (readP D' (otherH S)) (otherH S) 1 = none ∧ ∀ j, j < 8 → (stampAt (readP D' (otherH S)) j : Int) ≤ S.stamp + 1)) :
    Disc D' n S.was S.head (S.stamp + 1) ∧ ∀ x, cont D' S.was x = cont S.D S.was x := by
  have h4 := h.n4
  have hh : ∀ x, isH x → x ≠ otherH S → readP D' x = readP S.D x := by
    intro x hx hne
    rw [hr x (by rcases hx with rfl | rfl <;> omega) (by rcases hx with rfl | rfl <;> omega) hne, rd2_head h hx]
  have hpg : ∀ x, hasB S.was.taken x = true → readP D' x = readP S.D x := by
    intro x hx
    obtain ⟨g1, g2, _⟩ := hasB_eq hx
    rw [h.disc.len] at g2
    rw [hr x (by omega) g2 (by intro e; rcases other_isH S with e' | e' <;> omega), rd2_old h hx]
  have hold : ∀ x, isH x → readP D' x = readP S.D x ∨ (x = otherH S ∧ getF (readP D' x) x 1 = none) := by
    intro x hx
    by_cases e : x = otherH S
    · subst e
      rcases ho with e | ⟨e, _⟩
      · exact .inl e
      · exact .inr ⟨rfl, e⟩
    · exact .inl (hh x hx e)
  refine ⟨⟨hD, hW, ⟨fun x hx j hj => ?_, ?_⟩, fun x hx => by rw [hpg x hx]; exact h.disc.pages x hx, h.disc.clean, h.disc.len, h.disc.root⟩, fun x => ?_⟩
  · by_cases e : x = otherH S
    · subst e
      rcases ho with e | ⟨_, e⟩
      · rw [e]; have := h.disc.heads.le _ hx j hj; omega
      · exact e j hj
    · rw [hh x hx e]; have := h.disc.heads.le x hx j hj; omega
  · rcases h.disc.heads.force with ⟨h1, h2, h3⟩ | ⟨h1, b, s, h2, h3, h5⟩
    · refine .inl ⟨h1, h2, fun x hx b s hg => ?_⟩
      rcases hold x hx with e | ⟨_, e⟩
      · exact h3 x hx b s (by rw [← e]; exact hg)
      · rw [e] at hg; cases hg
    · refine .inr ⟨h1, b, s, ?_, h3, fun x hx hne b' s' t hg hf => ?_⟩
      · rw [hh _ h1 (fun e => other_ne S _ rfl e.symm)]; exact h2
      · rcases hold x hx with e | ⟨_, e⟩
        · exact h5 x hx hne b' s' t (by rw [← e]; exact hg) hf
        · rw [e] at hg; cases hg
  · unfold cont
    by_cases hx : hasB S.was.taken x = true
    · rw [if_pos hx, if_pos hx, hpg x hx]
    · rw [if_neg hx, if_neg hx]
/-- a death at the head -/
theorem Inv.crashB (h : Inv S n) (hs : S.stamp + 1 ≤ 18446744073709551615) {D' : DS} (hD : DOk D' n) (hl : ∀ x : Int, 0 ≤ x → x < n → lastP D' x = rd2 S x) (hw : ∀ x, wget x D'.W = if x = otherH S then some (frH S) else none) (l : List Int) :
    ∃ was' head', Disc (restartS D' l) n was' head' (S.stamp + 1) ∧ ((was' = S.was ∧ ∀ x, cont (restartS D' l) S.was x = cont S.D S.was x) ∨ (was' = doneSt S.st ∧ ∀ x, cont (restartS D' l) (doneSt S.st) x = cont S.D S.st x)) := by
  have h4 := h.n4
  have hst := h.stamp
  have ho0 : 0 ≤ otherH S ∧ otherH S < n := by rcases other_isH S with e | e <;> omega
  have hr : ∀ x : Int, 0 ≤ x → x < n → x ≠ otherH S → readP (restartS D' l) x = rd2 S x := by
    intro x h0 h1 hne
    rcases restart_read hD l h0 h1 with ⟨_, e⟩ | ⟨j, u, e, _⟩
    · rw [e, hl x h0 h1]
    · rw [hw x, if_neg hne] at e; cases e
  obtain ⟨f, hf⟩ : ∃ f, readP (restartS D' l) (otherH S) = mix f (readP S.D (otherH S)) (frH S) 8 := by
    rcases restart_read hD l ho0.1 ho0.2 with ⟨e, _⟩ | ⟨j, u, e, _, e2⟩
    · rw [hw, if_pos rfl] at e; exact absurd e (by simp)
    · rw [hw, if_pos rfl] at e
      obtain rfl := Option.some.inj e
      rw [hl _ ho0.1 ho0.2, rd2_head h (other_isH S)] at e2
      exact ⟨_, e2⟩
  have hsz := h.disc.ok.readSize ho0.1 ho0.2
  have hsf : (frH S).size = 4096 := frP_size _ _ _ _ h.hdSize
  have hsw : ∀ j, j < 8 → stampAt (readP S.D (otherH S)) j < (S.stamp + 1).toNat := fun j hj => by have := h.disc.heads.le _ (other_isH S) j hj; omega
  have hsn : ∀ j, j < 8 → stampAt (frH S) j = (S.stamp + 1).toNat := fun j hj => by have := frP_stamp (otherH S) 1 (S.stamp + 1) (hdBytes S.st) h.hdSize (by omega) hs j hj; unfold frH; omega
  have hDr := hD.restart l
  rcases torn f _ _ hsz hsf (S.stamp + 1).toNat hsw hsn (otherH S) 1 with e | e | e
  · obtain ⟨g1, g2⟩ := h.discNew hs hDr rfl (fun x h0 h1 => by
      by_cases hx : x = otherH S
      · rw [if_pos hx, hx, hf, e]
      · rw [if_neg hx, hr x h0 h1 hx])
    exact ⟨_, _, g1, .inr ⟨rfl, g2⟩⟩
  · obtain ⟨g1, g2⟩ := h.discOld hs hDr rfl hr (.inl (by rw [hf, e]))
    exact ⟨_, _, g1, .inl ⟨rfl, g2⟩⟩
  · obtain ⟨g1, g2⟩ := h.discOld hs hDr rfl hr (.inr ⟨by rw [hf]; exact e, fun j hj => by
      rw [hf, stamp_mix f _ _ hsz hsf j hj]
      have := hsw j hj
      have := hsn j hj
      split <;> omega⟩)
    exact ⟨_, _, g1, .inl ⟨rfl, g2⟩⟩
end
end Go.Proofs.Ytlmngghkhnnaeaa
namespace Go.Proofs.Ytlmngghkhnnaeaa
set_option maxRecDepth 100000
set_option linter.unusedVariables false
set_option linter.unusedSimpArgs false
theorem okSt_self {n : Nat} {t : St} (hc : t = doneSt t) (hl : t.taken.length = n) (hr : RootOk t ∧ 0 ≤ t.root ∧ t.root < n) : OkSt n t t := by
  have hf : t.fresh = [] := by rw [hc]; rfl
  have hh : t.held.length = n := by rw [hc, ← hl]; simp [doneSt]
  refine ⟨hl, hh, hr, fun x h _ => h, fun x h => ⟨by rw [hf]; rfl, .inl h⟩, (fun x u h => by rw [hf] at h; cases h), by rw [hf]; simp, fun _ => ⟨rfl, rfl, hf⟩⟩
section
variable {S : SS} {n : Nat} {L : List Int}
/-- what a Commit that goes well leaves -/
structure Good (S S' : SS) (n : Nat) : Prop where
  inv : Inv S' n
  st : S'.st = doneSt S.st
  was : S'.was = doneSt S.st
  marks : S'.marks = []
  stamp : S'.stamp ≤ S.stamp + 1
  cont : ∀ x, cont S'.D (doneSt S.st) x = cont S.D S.st x
  fuse : S.D.fuse < 0 → S'.D.fuse = S.D.fuse
  yes : S.st.touched = true → S'.head = otherH S ∧ S'.stamp = S.stamp + 1 ∧ readP S'.D (otherH S) = frH S ∧ ∀ x, isH x → x ≠ otherH S → readP S'.D x = readP S.D x
  no : S.st.touched = false → S'.D = S.D ∧ S'.head = S.head ∧ S'.stamp = S.stamp
/-- what one leaves that dies -/
structure Died (S S' : SS) (n : Nat) : Prop where
  dead : S'.dead = true
  ddead : S'.D.dead = true
  fuse : 0 ≤ S.D.fuse
  len : S'.D.L.length = n
  restart : ∀ l, ∃ was' head', Disc (restartS S'.D l) n was' head' (S.stamp + 1) ∧ ((was' = S.was ∧ ∀ x, Go.Proofs.Ytlmngghkhnnaeaa.cont (restartS S'.D l) S.was x = Go.Proofs.Ytlmngghkhnnaeaa.cont S.D S.was x) ∨ (was' = doneSt S.st ∧ ∀ x, Go.Proofs.Ytlmngghkhnnaeaa.cont (restartS S'.D l) (doneSt S.st) x = Go.Proofs.Ytlmngghkhnnaeaa.cont S.D S.st x))
theorem commit_law (h : Inv S n) (hs : S.stamp + 1 ≤ 18446744073709551615) (hL : L.Perm (S.st.fresh.map (·.1))) :
    ((commitF S L).1 = 0 ∧ Good S (commitF S L).2 n) ∨ ((commitF S L).1 = 9 ∧ Died S (commitF S L).2 n) := by
  have hdd : S.dd = false := by unfold SS.dd; rw [h.alive.1, h.alive.2]; rfl
  have hcf : commitF S L = commitS S L := by unfold commitF; rw [if_neg (by rw [hdd]; decide)]
  rw [hcf]
  have h4 := h.n4
  cases ht : S.st.touched with
  | false =>
    left
    have hcs : commitS S L = (0, doneS S) := by unfold commitS; rw [if_neg (by rw [ht]; decide)]
    rw [hcs]
    obtain ⟨e1, e2, e3⟩ := h.st.still ht
    have hw : doneSt S.st = S.was := by
      rw [h.disc.clean]
      unfold doneSt
      rw [e1, e2]
    refine ⟨rfl, ⟨h.n4, h.alive, h.stamp, ?_, ?_, fun m hm => by simp [doneS] at hm⟩, rfl, rfl, rfl, by show S.stamp ≤ S.stamp + 1; omega, fun x => ?_, fun _ => rfl, fun e => (by cases ht.symm.trans e), fun _ => ⟨rfl, rfl, rfl⟩⟩
    · show Disc S.D n (doneSt S.st) S.head S.stamp
      rw [hw]; exact h.disc
    · show OkSt n (doneSt S.st) (doneSt S.st)
      rw [hw]; exact okSt_self h.disc.clean h.disc.len h.disc.root
    · show Go.Proofs.Ytlmngghkhnnaeaa.cont S.D (doneSt S.st) x = _
      unfold Go.Proofs.Ytlmngghkhnnaeaa.cont
      show (if hasB S.st.taken x = true then (match wget x [] with | some u => some u | none => (getF (readP S.D x) x 2).map (·.1)) else none) = _
      first | (rw [e3]; done) | (rw [e3]; rfl)
  | true =>
    have hcs : commitS S L = if (flushF S L).1 = 0 then (0, doneS (flushF S L).2) else (9, deadS (flushF S L).2) := by unfold commitS; rw [if_pos ht]
    rw [hcs]
    obtain ⟨r, hr⟩ : ∃ r, r = flL (flT S) L S.D := ⟨_, rfl⟩
    have hD1 : DOk r.1 n := by rw [hr]; exact h.ok1 hL
    have hl1 : r.1.L = S.D.L := by rw [hr]; exact flL_L _ _ _
    have hw1 : ∀ x, wget x r.1.W = none ∨ x ∈ L := fun x => by rw [hr]; exact (h.w1 x).imp_right (fun e => e.1)
    have hdr : r.1.dead = !r.2 := by rw [hr]; exact flL_dead _ _ _ h.alive.2
    have hneg : S.D.fuse < 0 → r.2 = true ∧ r.1.fuse = S.D.fuse ∧ r.1.dead = false := fun e => by rw [hr]; exact flL_neg _ _ _ e h.alive.2
    have hff : flushF S L = flMid (flT S) r := by unfold flushF; rw [hr]
    have hfuse : ∀ {p : Prop}, (S.D.fuse < 0 → p) → (¬ p) → 0 ≤ S.D.fuse := fun h1 h2 => by
      rcases Int.lt_or_le S.D.fuse 0 with e | e
      · exact absurd (h1 e) h2
      · exact e
    have hlen : ∀ D' : DS, D'.L.length = S.D.L.length → D'.L.length = n := fun D' e => e.trans h.disc.ok.len
    cases h2 : r.2 with
    | false =>
      right
      have e : flushF S L = (9, (flT S).onto r.1) := by rw [hff]; unfold flMid; rw [h2, if_pos rfl]
      rw [e]; dsimp only; rw [if_neg (by decide)]
      have hd : r.1.dead = true := by rw [hdr, h2]; rfl
      refine ⟨rfl, rfl, hd, hfuse (fun e => (hneg e).1) (by rw [h2]; decide), hlen _ (by show r.1.L.length = _; rw [hl1]), fun l => ?_⟩
      obtain ⟨g1, g2⟩ := h.crashA hL hD1 hl1 hw1 l
      exact ⟨_, _, g1, .inl ⟨rfl, g2⟩⟩
    | true =>
      have hd1 : r.1.dead = false := by rw [hdr, h2]; rfl
      cases hb : (burnS r.1).dead with
      | true =>
        right
        have e : flushF S L = (9, (flT S).onto (flushR r.1)) := by rw [hff]; unfold flMid; rw [h2, if_neg (fun e => Bool.noConfusion e), if_pos hb]
        have ef : flushR r.1 = burnS r.1 := by unfold flushR; rw [if_neg (by rw [hd1]; decide), if_pos hb]
        rw [e, ef]; dsimp only; rw [if_neg (by decide)]
        refine ⟨rfl, rfl, hb, hfuse (fun e => (burn_neg (D := r.1) (by rw [(hneg e).2.1]; exact e)).1) (by rw [hb, hd1]; decide), hlen _ (by show r.1.L.length = _; rw [hl1]), fun l => ?_⟩
        obtain ⟨g1, g2⟩ := h.crashA (D' := burnS r.1) hL hD1.burn hl1 hw1 l
        exact ⟨_, _, g1, .inl ⟨rfl, g2⟩⟩
      | false =>
        obtain ⟨D2, hD2⟩ : ∃ D2, D2 = flushR r.1 := ⟨_, rfl⟩
        have hr2 : ∀ x : Int, 0 ≤ x → x < n → readP D2 x = rd2 S x := fun x h0 h1 => by
          rw [hD2, hr]
          exact h.read2 hL (by rw [← hr]; exact h2) (by rw [← hr]; exact hb) x h0 h1
        have hok2 : DOk D2 n := by rw [hD2]; exact hD1.flush hd1 hb
        have hW2 : D2.W = [] := by rw [hD2, flushR_ok hd1 hb]
        have hd2 : D2.dead = false := by rw [hD2]; exact flushR_dead hd1 hb
        have hf2 : S.D.fuse < 0 → D2.fuse = S.D.fuse := fun e => by
          rw [hD2, flushR_ok hd1 hb]
          show (burnS r.1).fuse = _
          rw [(burn_neg (D := r.1) (by rw [(hneg e).2.1]; exact e)).2, (hneg e).2.1]
        have hl2 : ∀ x : Int, 0 ≤ x → x < n → lastP D2 x = rd2 S x := fun x h0 h1 => by
          rw [← hr2 x h0 h1, readP_eq, hW2]; rfl
        have ho0 : 0 ≤ otherH S ∧ otherH S < n := by rcases other_isH S with e | e <;> omega
        have hsf : (frH S).size = 4096 := frP_size _ _ _ _ h.hdSize
        obtain ⟨D3, hD3⟩ : ∃ D3, D3 = writeS D2 (otherH S) (frH S) := ⟨_, rfl⟩
        have hsw : swrD ((flT S).onto D2) (otherH (flT S)) 1 (hdBytes (flT S).st) = D3 := by rw [hD3]; rfl
        have hok3 : DOk D3 n := by rw [hD3]; exact hok2.write ho0.1 ho0.2 hsf
        have hl3 : ∀ x : Int, 0 ≤ x → x < n → lastP D3 x = rd2 S x := fun x h0 h1 => by rw [hD3]; exact hl2 x h0 h1
        have hw3 : ∀ x, wget x D3.W = if x = otherH S then some (frH S) else none := fun x => by
          rw [hD3]
          show wget x (wput _ _ D2.W) = _
          rw [wget_wput, hW2]; rfl
        have hlen3 : D3.L.length = n := hok3.len
        have hf3 : S.D.fuse < 0 → D3.dead = D2.dead ∧ D3.fuse = S.D.fuse := fun e => by
          have := write_neg (otherH S) (frH S) (D := D2) (by rw [hf2 e]; exact e)
          rw [← hD3] at this
          exact ⟨this.1, this.2.trans (hf2 e)⟩
        have hfe : flushF S L = if D3.dead = true then (9, (flT S).onto D3) else if (burnS D3).dead = true then (9, (flT S).onto (flushR D3)) else (0, { (flT S).onto (flushR D3) with head := otherH S }) := by
          rw [hff]
          unfold flMid
          rw [h2, if_neg (fun e => Bool.noConfusion e), if_neg (by rw [hb]; decide), ← hD2]
          unfold flEnd
          rw [hsw]; rfl
        cases hd3 : D3.dead with
        | true =>
          right
          have e : flushF S L = (9, (flT S).onto D3) := by rw [hfe, if_pos hd3]
          rw [e]; dsimp only; rw [if_neg (by decide)]
          refine ⟨rfl, rfl, hd3, hfuse (fun e => (hf3 e).1) (by rw [hd3, hd2]; decide), hlen3, fun l => h.crashB hs hok3 hl3 hw3 l⟩
        | false =>
          cases hb3 : (burnS D3).dead with
          | true =>
            right
            have e : flushF S L = (9, (flT S).onto (flushR D3)) := by rw [hfe, if_neg (show ¬ D3.dead = true by rw [hd3]; decide), if_pos hb3]
            rw [e]; dsimp only; rw [if_neg (by decide)]
            have ef : flushR D3 = burnS D3 := by unfold flushR; rw [if_neg (by rw [hd3]; decide), if_pos hb3]
            rw [ef]
            refine ⟨rfl, rfl, hb3, hfuse (fun e => (burn_neg (D := D3) (by rw [(hf3 e).2]; exact e)).1) (by rw [hb3, hd3]; decide), hlen3, fun l => h.crashB (D' := burnS D3) hs hok3.burn hl3 hw3 l⟩
          | false =>
            left
            have e : flushF S L = (0, { (flT S).onto (flushR D3) with head := otherH S }) := by rw [hfe, if_neg (show ¬ D3.dead = true by rw [hd3]; decide), if_neg (show ¬ (burnS D3).dead = true by rw [hb3]; decide)]
            rw [e]; dsimp only; rw [if_pos rfl]
            have hok4 : DOk (flushR D3) n := hok3.flush hd3 hb3
            have hr4 : ∀ x : Int, 0 ≤ x → x < n → readP (flushR D3) x = if x = otherH S then frH S else rd2 S x := fun x h0 h1 => by
              rw [flush_read hok3 hd3 hb3 h0 h1, hD3, write_read]
              by_cases hx : x = otherH S
              · rw [if_pos hx, if_pos hx]
              · rw [if_neg hx, if_neg hx, hr2 x h0 h1]
            obtain ⟨g1, g2⟩ := h.discNew hs hok4 (by rw [flushR_ok hd3 hb3]) hr4
            refine ⟨rfl, ⟨h.n4, ⟨h.alive.1, flushR_dead hd3 hb3⟩, ?_, g1, okSt_self rfl h.st.len h.st.root, fun m hm => by simp [doneS] at hm⟩, rfl, rfl, rfl, Int.le_refl _, g2, fun e => ?_, fun _ => ⟨rfl, rfl, ?_, fun x hx hne => ?_⟩, fun e => (by cases ht.symm.trans e)⟩
            · show 0 ≤ S.stamp + 1
              have := h.stamp; omega
            · show (flushR D3).fuse = _
              rw [flushR_ok hd3 hb3]
              show (burnS D3).fuse = _
              rw [(burn_neg (D := D3) (by rw [(hf3 e).2]; exact e)).2, (hf3 e).2]
            · show readP (flushR D3) (otherH S) = _
              rw [hr4 _ ho0.1 ho0.2, if_pos rfl]
            · show readP (flushR D3) x = _
              rw [hr4 x (by rcases hx with rfl | rfl <;> omega) (by rcases hx with rfl | rfl <;> omega), if_neg hne, rd2_head h hx]
end
end Go.Proofs.Ytlmngghkhnnaeaa
namespace Go.Proofs.Ytlmngghkhnnaeaa
set_option maxRecDepth 100000
set_option linter.unusedVariables false
set_option linter.unusedSimpArgs false
theorem hasB_set (l : List Bool) (p : Nat) (b : Bool) (x : Int) (h2 : 2 ≤ p) (hp : p < l.length) : hasB (l.set p b) x = if x = p then b else hasB l x := by
  unfold hasB
  rw [List.length_set]
  by_cases hx : x = p
  · subst hx
    rw [if_pos rfl, decide_eq_true (by omega), decide_eq_true (by omega), Bool.true_and, Bool.true_and]
    simp [hp]
  · rw [if_neg hx]
    by_cases h0 : 2 ≤ x
    · have : ¬ p = x.toNat := fun e => hx (by omega)
      simp [h0, List.getElem?_set, this]
    · simp [h0]
theorem wget_wdel (k x : Int) : ∀ W : Wt, (W.map (·.1)).Nodup → wget x (wdel k W) = if x = k then none else wget x W
  | [], _ => by simp [wdel, wget]
  | q :: W, hn => by
    simp only [List.map_cons, List.nodup_cons] at hn
    have ih := wget_wdel k x W hn.2
    by_cases hk : k = q.1
    · simp only [wdel, if_pos hk]
      by_cases hx : x = k
      · rw [if_pos hx]
        cases hw : wget x W with
        | none => rfl
        | some u => exact absurd (List.mem_map_of_mem (f := (·.1)) (wget_some_mem hw)) (by rw [← hk, ← hx] at hn; exact hn.1)
      · rw [if_neg hx]
        have : ¬ x = q.1 := fun e => hx (e.trans hk.symm)
        simp [wget, this]
    · simp only [wdel, if_neg hk]
      by_cases hx : x = q.1
      · have : ¬ x = k := fun e => hk (e.symm.trans hx)
        simp [wget, hx]
        intro e; exact absurd e (fun e => hk e.symm)
      · simp only [wget, if_neg hx]; exact ih
section
variable {n : Nat} {was s : St}
theorem OkSt.take (h : OkSt n was s) (p : Nat) (u : ByteArray) (hu : u.size ≤ 4011) (hp : p < s.taken.length) (h2 : 2 ≤ p) (ht : s.taken.getD p false = false) (hh : s.held.getD p false = false) : OkSt n was (takeSt s p u) := by
  have hb := fun x => hasB_set s.taken p true x h2 hp
  refine ⟨by show (s.taken.set p true).length = n; rw [List.length_set]; exact h.len, h.hlen, ⟨⟨?_, ?_, ?_⟩, h.root.2⟩, fun x hx hw => ?_, fun x hx => ?_, fun x v hv => ?_, wput_nodup _ _ _ h.nodup, fun e => by cases e⟩
  · show (s.taken.set p true).getD 0 false = false
    rw [List.getD_eq_getElem?_getD, List.getElem?_set, if_neg (by omega), ← List.getD_eq_getElem?_getD]; exact h.root.1.1
  · show (s.taken.set p true).getD 1 false = false
    rw [List.getD_eq_getElem?_getD, List.getElem?_set, if_neg (by omega), ← List.getD_eq_getElem?_getD]; exact h.root.1.2.1
  · show s.root = 0 ∨ hasB (s.taken.set p true) s.root = true
    rcases h.root.1.2.2 with e | e
    · exact .inl e
    · right; rw [hb]; split
      · rfl
      · exact e
  · have hx' : hasB (s.taken.set p true) x = true := hx
    have hw' : wget x (wput p u s.fresh) = none := hw
    rw [wget_wput] at hw'
    by_cases e : x = p
    · rw [if_pos e] at hw'; cases hw'
    · rw [hb, if_neg e] at hx'
      rw [if_neg e] at hw'
      exact h.old x hx' hw'
  · obtain ⟨g1, g2⟩ := h.keep x hx
    have hxp : ¬ x = p := by
      rintro rfl
      rcases g2 with e | ⟨_, e⟩
      · have := (hasB_eq e).2.2
        simp only [Int.toNat_natCast] at this
        rw [ht] at this; cases this
      · simp only [Int.toNat_natCast] at e
        rw [hh] at e; cases e
    show wget x (wput p u s.fresh) = none ∧ (hasB (s.taken.set p true) x = true ∨ hasB (s.taken.set p true) x = false ∧ _)
    rw [wget_wput, if_neg hxp, hb, if_neg hxp]
    exact ⟨g1, g2⟩
  · have hv' : wget x (wput p u s.fresh) = some v := hv
    show hasB (s.taken.set p true) x = true ∧ _
    rw [wget_wput] at hv'
    rw [hb]
    by_cases e : x = p
    · rw [if_pos e] at hv' ⊢
      obtain rfl := Option.some.inj hv'
      exact ⟨rfl, hu⟩
    · rw [if_neg e] at hv' ⊢
      exact h.new x v hv'
theorem OkSt.give (h : OkSt n was s) (p : Nat) (hp : hasB s.taken p = true) (hr : (p : Int) ≠ s.root) : OkSt n was (giveSt s p) := by
  obtain ⟨h2, hpl, _⟩ := hasB_eq hp
  have hb := fun x => hasB_set s.taken p false x (by omega) (by omega)
  refine ⟨by show (s.taken.set p false).length = n; rw [List.length_set]; exact h.len, by show (s.held.set p _).length = n; rw [List.length_set]; exact h.hlen, ⟨⟨?_, ?_, ?_⟩, h.root.2⟩, fun x hx hw => ?_, fun x hx => ?_, fun x v hv => ?_, (h.nodup.sublist ((wdel_sub _ _).map _)), fun e => by cases e⟩
  · show (s.taken.set p false).getD 0 false = false
    rw [List.getD_eq_getElem?_getD, List.getElem?_set, if_neg (by omega), ← List.getD_eq_getElem?_getD]; exact h.root.1.1
  · show (s.taken.set p false).getD 1 false = false
    rw [List.getD_eq_getElem?_getD, List.getElem?_set, if_neg (by omega), ← List.getD_eq_getElem?_getD]; exact h.root.1.2.1
  · show s.root = 0 ∨ hasB (s.taken.set p false) s.root = true
    rcases h.root.1.2.2 with e | e
    · exact .inl e
    · right; rw [hb, if_neg (fun e => hr e.symm)]; exact e
  · have hx' : hasB (s.taken.set p false) x = true := hx
    have hw' : wget x (wdel p s.fresh) = none := hw
    rw [hb] at hx'
    by_cases e : x = p
    · rw [if_pos e] at hx'; cases hx'
    · rw [if_neg e] at hx'
      rw [wget_wdel _ _ _ h.nodup, if_neg e] at hw'
      exact h.old x hx' hw'
  · obtain ⟨g1, g2⟩ := h.keep x hx
    show wget x (wdel p s.fresh) = none ∧ (hasB (s.taken.set p false) x = true ∨ hasB (s.taken.set p false) x = false ∧ (s.held.set p (!(wget (p : Nat) s.fresh).isSome)).getD x.toNat false = true)
    rw [wget_wdel _ _ _ h.nodup, hb]
    by_cases e : x = p
    · rw [if_pos e, if_pos e]
      refine ⟨rfl, .inr ⟨rfl, ?_⟩⟩
      rw [e] at g1
      rw [e, Int.toNat_natCast, List.getD_eq_getElem?_getD, List.getElem?_set, if_pos rfl, if_pos (by rw [h.hlen, ← h.len]; omega), g1]
      rfl
    · rw [if_neg e, if_neg e]
      refine ⟨g1, g2.imp_right (fun g => ⟨g.1, ?_⟩)⟩
      have hxn : ¬ p = x.toNat := fun e' => e (by have := hasB_eq hx; omega)
      rw [List.getD_eq_getElem?_getD, List.getElem?_set, if_neg hxn, ← List.getD_eq_getElem?_getD]
      exact g.2
  · have hv' : wget x (wdel p s.fresh) = some v := hv
    rw [wget_wdel _ _ _ h.nodup] at hv'
    show hasB (s.taken.set p false) x = true ∧ _
    rw [hb]
    by_cases e : x = p
    · rw [if_pos e] at hv'; cases hv'
    · rw [if_neg e] at hv' ⊢
      exact h.new x v hv'
theorem OkSt.root' (h : OkSt n was s) (x : Int) (hx : x = 0 ∨ hasB s.taken x = true) : OkSt n was { s with root := x, touched := true } := by
  refine ⟨h.len, h.hlen, ⟨⟨h.root.1.1, h.root.1.2.1, hx⟩, ?_⟩, h.old, h.keep, h.new, h.nodup, fun e => by cases e⟩
  rcases hx with rfl | e
  · exact ⟨Int.le_refl _, by have := h.root.2; show (0 : Int) < n; omega⟩
  · obtain ⟨g1, g2, _⟩ := hasB_eq e
    rw [h.len] at g2
    exact ⟨by show 0 ≤ x; omega, g2⟩
end
section
variable {S : SS} {n : Nat}
theorem Inv.dd (h : Inv S n) : S.dd = false := by unfold SS.dd; rw [h.alive.1, h.alive.2]; rfl
theorem Inv.upd (h : Inv S n) {s : St} (hs : OkSt n S.was s) : Inv { S with st := s } n := ⟨h.n4, h.alive, h.stamp, h.disc, hs, h.marks⟩
theorem Inv.take (h : Inv S n) (u : ByteArray) : Inv (takeF S u).2.2 n := by
  unfold takeF
  rw [if_neg (by rw [h.dd]; decide)]
  unfold takeS
  split
  · exact h
  · rename_i hu
    split
    · exact h
    · rename_i p r hf
      obtain ⟨g1, g2, g3, g4⟩ := freeL_mem S.st.taken S.st.held p (by rw [hf]; exact List.mem_cons_self)
      exact h.upd (h.st.take p u (by omega) g1 g2 g3 g4)
theorem Inv.give (h : Inv S n) (x : Int) : Inv (giveF S x).2 n := by
  unfold giveF
  rw [if_neg (by rw [h.dd]; decide)]
  unfold giveS
  split
  · exact h
  · rename_i hx
    have hb : hasB S.st.taken x = true := by
      cases hb : hasB S.st.taken x with
      | true => rfl
      | false => exact absurd (.inl hb) hx
    have h2 := (hasB_eq hb).1
    exact h.upd (h.st.give x.toNat (by rw [show ((x.toNat : Nat) : Int) = x by omega]; exact hb) (by rw [show ((x.toNat : Nat) : Int) = x by omega]; exact fun e => hx (.inr e)))
theorem Inv.setr (h : Inv S n) (x : Int) : Inv (setrF S x).2 n := by
  unfold setrF
  rw [if_neg (by rw [h.dd]; decide)]
  unfold setrS
  split
  · exact h
  · rename_i hx
    refine h.upd (h.st.root' x ?_)
    by_cases h0 : x = 0
    · exact .inl h0
    · right
      cases hb : hasB S.st.taken x with
      | true => rfl
      | false => exact absurd ⟨h0, hb⟩ hx
theorem Inv.mark (h : Inv S n) : Inv (markF S).2 n := by
  unfold markF
  rw [if_neg (by rw [h.dd]; decide)]
  refine ⟨h.n4, h.alive, h.stamp, h.disc, h.st, fun m hm => ?_⟩
  rcases List.mem_append.1 hm with hm | hm
  · exact h.marks m hm
  · rw [List.mem_singleton.1 hm]; exact h.st
theorem Inv.back (h : Inv S n) (x : Int) : Inv (backF S x).2 n := by
  unfold backF
  rw [if_neg (by rw [h.dd]; decide)]
  unfold backS
  split
  · exact h
  · rename_i hx
    refine ⟨h.n4, h.alive, h.stamp, h.disc, ?_, fun m hm => h.marks m (List.mem_of_mem_take hm)⟩
    show OkSt n S.was (S.marks.getD (x.toNat - 1) S.st)
    rw [List.getD_eq_getElem?_getD, List.getElem?_eq_getElem (by omega)]
    exact h.marks _ (List.getElem_mem _)
theorem Inv.abort (h : Inv S n) : Inv (abortS S) n := ⟨h.n4, h.alive, h.stamp, h.disc, okSt_self h.disc.clean h.disc.len h.disc.root, fun m hm => by cases hm⟩
/-- a page's bytes, as they are read -/
theorem Inv.read (h : Inv S n) (x : Int) : readF S x = match cont S.D S.st x with | some b => (0, b) | none => (1, ByteArray.empty) := by
  unfold readF
  rw [if_neg (by rw [h.dd]; decide)]
  unfold readS cont
  cases hb : hasB S.st.taken x with
  | false => rfl
  | true =>
    rw [if_neg (by decide), if_pos rfl]
    cases hw : wget x S.st.fresh with
    | some u => rfl
    | none =>
      obtain ⟨b, s, e⟩ := h.disc.pages x (h.st.old x hb hw)
      simp only [e]
      rfl
/-- what Open makes of a disk -/
def openSS (D : DS) (n : Nat) : SS := ⟨(openO (readP D) n).st, (openO (readP D) n).st, [], (openO (readP D) n).head, (openO (readP D) n).stamp, false, D⟩
theorem open_inv {D : DS} {was : St} {head stamp : Int} (hd : D.dead = false) (h4 : 4 ≤ n ∧ n ≤ 4096) (h0 : 0 ≤ stamp) (h : Disc D n was head stamp) : Inv (openSS D n) n ∧ (openSS D n).st = was ∧ (openSS D n).was = was ∧ (openSS D n).stamp ≤ stamp := by
  obtain ⟨e1, e2, e3, e4, e5⟩ := open_heads h0 h.heads
  refine ⟨⟨h4, ⟨rfl, hd⟩, e4, ?_, ?_, fun m hm => by cases hm⟩, e1, e1, e3⟩
  · show Disc D n (openO (readP D) n).st (openO (readP D) n).head (openO (readP D) n).stamp
    rw [e1, e2]
    exact ⟨h.ok, h.W, e5, h.pages, h.clean, h.len, h.root⟩
  · show OkSt n (openO (readP D) n).st (openO (readP D) n).st
    rw [e1]
    exact okSt_self h.clean h.len h.root
theorem valN_zero : ∀ l : List UInt8, (∀ b ∈ l, b = 0) → ∀ n, n = 0 → l.foldl (fun n b => n * 256 + b.toNat) n = 0
  | [], _, n, hn => hn
  | b :: l, h, n, hn => valN_zero l (fun c hc => h c (List.mem_cons_of_mem _ hc)) _ (by rw [hn, h b List.mem_cons_self]; rfl)
theorem stamp_zero (j : Nat) : stampAt (zp 4096) j = 0 := by
  unfold stampAt valB valN
  refine valN_zero _ (fun b hb => ?_) 0 rfl
  obtain ⟨i, hi⟩ := List.mem_iff_getElem?.1 hb
  have h1 : at? ((zp 4096).extract (512 * j) (512 * j + 8)) i = some b := hi
  rw [at_extract] at h1
  split at h1
  · rw [at_zp] at h1
    split at h1
    · exact (Option.some.inj h1).symm
    · cases h1
  · cases h1
/-- a new disk -/
theorem disc_new (h4 : 4 ≤ n ∧ n ≤ 4096) : Disc (newS n) n (zeroSt n) (-1) 0 := by
  have hr : ∀ x, readP (newS n) x = zp 4096 := by
    intro x
    rw [readP_eq]
    show pgOf ((List.replicate n none).getD x.toNat none) = _
    rw [List.getD_eq_getElem?_getD, List.getElem?_replicate]
    split <;> rfl
  have hz : ∀ j, j < 8 → stampAt (zp 4096) j = 0 := fun j hj => stamp_zero j
  have hh : ∀ x, hasB (List.replicate n false) x = false := by
    intro x
    unfold hasB
    rw [List.getD_eq_getElem?_getD, List.getElem?_replicate]
    split <;> simp
  refine ⟨⟨by simp [newS], fun i hi => ?_, by simp [newS], fun q hq => by cases hq⟩, rfl, ⟨fun x _ j hj => by rw [hr, hz j hj]; exact Int.le_refl _, .inl ⟨rfl, rfl, fun x _ b s hg => ?_⟩⟩, (fun x hx => by rw [show (zeroSt n).taken = List.replicate n false from rfl, hh] at hx; cases hx), by simp [zeroSt, doneSt], by simp [zeroSt], ⟨⟨?_, ?_, .inl rfl⟩, Int.le_refl _, by show (0 : Int) < n; omega⟩⟩
  · have := hr i
    rw [readP_eq] at this
    have h2 : pgOf ((newS n).L.getD i none) = zp 4096 := by
      have h3 : (wget (i : Int) (newS n).W).getD (lastP (newS n) i) = pgOf ((newS n).L.getD i none) := by
        show lastP (newS n) i = _
        unfold lastP
        rw [Int.toNat_natCast]
      rw [← h3]; exact this
    rw [h2]; exact zp_size 4096
  · rw [hr] at hg
    have := get_stamps hg 0 (by omega)
    rw [hz 0 (by omega)] at this
    have := (get_some hg).2.1
    omega
  · show (List.replicate n false).getD 0 false = false
    rw [List.getD_eq_getElem?_getD, List.getElem?_replicate]; split <;> rfl
  · show (List.replicate n false).getD 1 false = false
    rw [List.getD_eq_getElem?_getD, List.getElem?_replicate]; split <;> rfl
end
end Go.Proofs.Ytlmngghkhnnaeaa
