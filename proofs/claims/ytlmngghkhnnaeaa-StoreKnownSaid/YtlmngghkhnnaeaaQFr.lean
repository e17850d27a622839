/- A frame as bytes: what Put lays, what Get finds. No program in sight. -/
import Derived.Test.YtlmngghkhnnaeaaQChk4
namespace Go.Proofs.Ytlmngghkhnnaeaa
set_option maxRecDepth 100000
set_option linter.unusedVariables false
set_option linter.unusedSimpArgs false
/-- the byte at a place -/
def at? (s : ByteArray) (i : Nat) : Option UInt8 := s.data.toList[i]?
theorem at_append (s t : ByteArray) (i : Nat) : at? (s ++ t) i = if i < s.size then at? s i else at? t (i - s.size) := by
  unfold at?
  rw [ByteArray.data_append, Array.toList_append, List.getElem?_append, data_len]
theorem at_extract (s : ByteArray) (lo hi i : Nat) : at? (s.extract lo hi) i = if i < hi - lo then at? s (lo + i) else none := by
  unfold at?
  rw [ext_list, List.getElem?_take, List.getElem?_drop]
theorem at_none (s : ByteArray) (i : Nat) : at? s i = none ↔ s.size ≤ i := by
  unfold at?
  rw [List.getElem?_eq_none_iff, data_len]
theorem ba_at {a b : ByteArray} (h : ∀ i, at? a i = at? b i) : a = b := by
  have : a.data.toList = b.data.toList := List.ext_getElem? h
  cases a; cases b; simpa using this
theorem over_list (S : ByteArray) (o : Nat) (u : ByteArray) (h : o + u.size ≤ S.size) : (over S o u).data.toList = S.data.toList.take o ++ (u.data.toList ++ S.data.toList.drop (o + u.size)) := by
  unfold over
  rw [ByteArray.data_append, Array.toList_append, ByteArray.data_append, Array.toList_append, ext_list, ext_list, List.drop_zero, Nat.sub_zero]
  congr 2
  rw [List.take_of_length_le (by rw [List.length_drop, data_len]; exact Nat.le_refl _)]
theorem at_over (S : ByteArray) (o : Nat) (u : ByteArray) (h : o + u.size ≤ S.size) (i : Nat) : at? (over S o u) i = if o ≤ i ∧ i < o + u.size then at? u (i - o) else at? S i := by
  unfold at?
  rw [over_list S o u h]
  have hl : (S.data.toList.take o).length = o := by rw [List.length_take, data_len]; omega
  by_cases h1 : i < o
  · rw [if_neg (by omega), List.getElem?_append_left (by omega), List.getElem?_take, if_pos h1]
  · rw [List.getElem?_append_right (by omega), hl]
    by_cases h2 : i < o + u.size
    · rw [if_pos ⟨by omega, h2⟩, List.getElem?_append_left (by rw [data_len]; omega)]
    · rw [if_neg (by omega), List.getElem?_append_right (by rw [data_len]; omega), List.getElem?_drop, data_len]
      congr 1
      omega
theorem at_zp (n i : Nat) : at? (zp n) i = if i < n then some 0 else none := by
  unfold at? zp
  simp [List.getElem?_replicate]
/-! ### sectors -/
/-- the first k sectors of a page, laid -/
def layN (st : Int) (inn : ByteArray) : Nat → ByteArray
  | 0 => zp 4096
  | k + 1 => over (over (layN st inn k) (512 * k) (be8 st)) (512 * k + 8) (inn.extract (504 * k) (504 * k + 504))
theorem layN_size (st : Int) (inn : ByteArray) (hi : inn.size = 4032) : ∀ k, k ≤ 8 → (layN st inn k).size = 4096
  | 0, _ => zp_size 4096
  | k + 1, h => by
    have ih := layN_size st inn hi k (by omega)
    have h1 : (over (layN st inn k) (512 * k) (be8 st)).size = 4096 := by rw [over_size _ _ _ (by rw [be8_size, ih]; omega), ih]
    show (over _ _ _).size = 4096
    rw [over_size _ _ _ (by rw [h1, ByteArray.size_extract]; omega), h1]
/-- the byte of a page -/
def layAt (st : Int) (inn : ByteArray) (i : Nat) : Option UInt8 := if i % 512 < 8 then at? (be8 st) (i % 512) else at? inn (504 * (i / 512) + (i % 512 - 8))
theorem layN_at (st : Int) (inn : ByteArray) (hi : inn.size = 4032) : ∀ k, k ≤ 8 → ∀ i, i < 4096 → at? (layN st inn k) i = if i < 512 * k then layAt st inn i else some 0
  | 0, _, i, h => by rw [if_neg (by omega)]; show at? (zp 4096) i = _; rw [at_zp, if_pos h]
  | k + 1, hk, i, h => by
    have ih := layN_at st inn hi k (by omega) i h
    have hs := layN_size st inn hi k (by omega)
    have h1 : (over (layN st inn k) (512 * k) (be8 st)).size = 4096 := by rw [over_size _ _ _ (by rw [be8_size, hs]; omega), hs]
    have hx : (inn.extract (504 * k) (504 * k + 504)).size = 504 := by rw [ByteArray.size_extract]; omega
    show at? (over _ _ _) i = _
    rw [at_over _ _ _ (by rw [h1, hx]; omega), at_over _ _ _ (by rw [hs, be8_size]; omega), hx, be8_size, ih]
    by_cases c1 : i < 512 * k
    · rw [if_neg (by omega), if_neg (by omega), if_pos c1, if_pos (by omega)]
    · by_cases c2 : i < 512 * k + 512
      · have d : i / 512 = k := by omega
        have m : i % 512 = i - 512 * k := by omega
        rw [if_pos (show i < 512 * (k + 1) by omega)]
        unfold layAt
        rw [d, m]
        by_cases c3 : i < 512 * k + 8
        · rw [if_neg (by omega), if_pos (by omega), if_pos (by omega)]
        · rw [if_pos (by omega), if_neg (by omega), at_extract, if_pos (by omega), show 504 * k + (i - (512 * k + 8)) = 504 * k + (i - 512 * k - 8) by omega]
      · rw [if_neg (by omega), if_neg (by omega), if_neg c1, if_neg (by omega)]
/-- a page of a stamp and an inside -/
def lay (st : Int) (inn : ByteArray) : ByteArray := layN st inn 8
theorem lay_size (st : Int) (inn : ByteArray) (hi : inn.size = 4032) : (lay st inn).size = 4096 := layN_size st inn hi 8 (Nat.le_refl _)
theorem lay_at (st : Int) (inn : ByteArray) (hi : inn.size = 4032) (i : Nat) (h : i < 4096) : at? (lay st inn) i = layAt st inn i := by
  rw [lay, layN_at st inn hi 8 (Nat.le_refl _) i h, if_pos (by omega)]
/-- the inside of a page's first k sectors -/
def stripN (page : ByteArray) : Nat → ByteArray
  | 0 => ByteArray.empty
  | k + 1 => stripN page k ++ page.extract (512 * k + 8) (512 * k + 512)
theorem stripN_size (page : ByteArray) (hp : page.size = 4096) : ∀ k, k ≤ 8 → (stripN page k).size = 504 * k
  | 0, _ => rfl
  | k + 1, h => by
    show (stripN page k ++ _).size = _
    rw [size_append, stripN_size page hp k (by omega), ByteArray.size_extract]; omega
theorem stripN_at (page : ByteArray) (hp : page.size = 4096) : ∀ k, k ≤ 8 → ∀ j, j < 504 * k → at? (stripN page k) j = at? page (512 * (j / 504) + 8 + j % 504)
  | 0, _, j, h => by omega
  | k + 1, hk, j, h => by
    show at? (stripN page k ++ _) j = _
    rw [at_append, stripN_size page hp k (by omega)]
    by_cases c : j < 504 * k
    · rw [if_pos c, stripN_at page hp k (by omega) j c]
    · rw [if_neg c, at_extract, if_pos (by omega)]
      congr 1; omega
def strip (page : ByteArray) : ByteArray := stripN page 8
theorem strip_size (page : ByteArray) (hp : page.size = 4096) : (strip page).size = 4032 := stripN_size page hp 8 (Nat.le_refl _)
theorem strip_at (page : ByteArray) (hp : page.size = 4096) (j : Nat) (h : j < 4032) : at? (strip page) j = at? page (512 * (j / 504) + 8 + j % 504) := stripN_at page hp 8 (Nat.le_refl _) j (by omega)
theorem strip_lay (st : Int) (inn : ByteArray) (hi : inn.size = 4032) : strip (lay st inn) = inn := by
  have hp := lay_size st inn hi
  apply ba_at
  intro j
  by_cases h : j < 4032
  · have e1 : (512 * (j / 504) + 8 + j % 504) % 512 = 8 + j % 504 := by omega
    have e2 : (512 * (j / 504) + 8 + j % 504) / 512 = j / 504 := by omega
    rw [strip_at _ hp j h, lay_at st inn hi _ (by omega)]
    unfold layAt
    rw [e1, e2, if_neg (by omega), show 504 * (j / 504) + (8 + j % 504 - 8) = j by omega]
  · rw [(at_none _ _).2 (by rw [strip_size _ hp]; omega), (at_none _ _).2 (by omega)]
/-! ### stamps -/
/-- the stamp of a sector -/
def stampAt (page : ByteArray) (j : Nat) : Nat := valB (page.extract (512 * j) (512 * j + 8))
theorem be8_valB (n : Int) (h0 : 0 ≤ n) (h1 : n ≤ 18446744073709551615) : (valB (be8 n) : Int) = n := valN_be8 n h0 h1
theorem ext_lay (st : Int) (inn : ByteArray) (hi : inn.size = 4032) (j : Nat) (hj : j < 8) : (lay st inn).extract (512 * j) (512 * j + 8) = be8 st := by
  apply ba_at
  intro i
  rw [at_extract]
  by_cases h : i < 8
  · rw [if_pos (by omega), lay_at st inn hi _ (by omega)]
    unfold layAt
    rw [if_pos (by omega)]
    congr 1; omega
  · rw [if_neg (by omega), (at_none _ _).2 (by rw [be8_size]; omega)]
theorem stamp_lay (st : Int) (h0 : 0 ≤ st) (h1 : st ≤ 18446744073709551615) (inn : ByteArray) (hi : inn.size = 4032) (j : Nat) (hj : j < 8) : (stampAt (lay st inn) j : Int) = st := by
  unfold stampAt
  rw [ext_lay st inn hi j hj, be8_valB st h0 h1]
/-! ### what is inside -/
def hdB (at_ kind : Int) (b : ByteArray) : ByteArray := be8 at_ ++ bOne kind ++ be8 b.size ++ b
theorem hdB_size (at_ kind : Int) (b : ByteArray) : (hdB at_ kind b).size = 17 + b.size := by
  unfold hdB
  rw [size_append, size_append, size_append, be8_size, be8_size, size_one]
/-- an inside ahead of its check -/
def in0 (at_ kind : Int) (b : ByteArray) : ByteArray := over (zp 4032) 0 (hdB at_ kind b)
theorem in0_size (at_ kind : Int) (b : ByteArray) (hb : b.size ≤ 4011) : (in0 at_ kind b).size = 4032 := by
  unfold in0
  rw [over_size _ _ _ (by rw [zp_size, hdB_size]; omega), zp_size]
/-- an inside with its check -/
def frIn (at_ kind st : Int) (b : ByteArray) : ByteArray := over (in0 at_ kind b) 4028 (ckB st (in0 at_ kind b))
/-- a frame -/
def frP (at_ kind st : Int) (b : ByteArray) : ByteArray := lay st (frIn at_ kind st b)
/-- what Get finds -/
def lenF (inn : ByteArray) : Nat := if valB (inn.extract 9 17) ≤ 4011 then valB (inn.extract 9 17) else 0
def bodyF (inn : ByteArray) : ByteArray := inn.extract 17 (17 + lenF inn)
def getF (page : ByteArray) (at_ kind : Int) : Option (ByteArray × Int) :=
  if page.size = 4096 ∧ stampAt page 0 ≠ 0 ∧ frP at_ kind (stampAt page 0) (bodyF (strip page)) = page then some (bodyF (strip page), (stampAt page 0 : Int)) else none
theorem frIn_size (at_ kind st : Int) (b : ByteArray) (hb : b.size ≤ 4011) : (frIn at_ kind st b).size = 4032 := by
  unfold frIn
  rw [over_size _ _ _ (by rw [in0_size _ _ _ hb, ckB_size]; omega), in0_size _ _ _ hb]
theorem frP_size (at_ kind st : Int) (b : ByteArray) (hb : b.size ≤ 4011) : (frP at_ kind st b).size = 4096 := lay_size _ _ (frIn_size _ _ _ _ hb)
theorem frP_stamp (at_ kind st : Int) (b : ByteArray) (hb : b.size ≤ 4011) (h0 : 0 ≤ st) (h1 : st ≤ 18446744073709551615) (j : Nat) (hj : j < 8) : (stampAt (frP at_ kind st b) j : Int) = st := stamp_lay st h0 h1 _ (frIn_size _ _ _ _ hb) j hj
theorem frIn_at (at_ kind st : Int) (b : ByteArray) (hb : b.size ≤ 4011) (i : Nat) (hi : i < 17 + b.size) : at? (frIn at_ kind st b) i = at? (hdB at_ kind b) i := by
  unfold frIn
  rw [at_over _ _ _ (by rw [in0_size _ _ _ hb, ckB_size]; omega), if_neg (by omega)]
  unfold in0
  rw [at_over _ _ _ (by rw [zp_size, hdB_size]; omega), hdB_size, if_pos (by omega)]
  rfl
theorem frIn_len (at_ kind st : Int) (b : ByteArray) (hb : b.size ≤ 4011) : lenF (frIn at_ kind st b) = b.size := by
  have : (frIn at_ kind st b).extract 9 17 = be8 b.size := by
    apply ba_at
    intro i
    rw [at_extract]
    by_cases h : i < 8
    · rw [if_pos (by omega), frIn_at _ _ _ _ hb _ (by omega)]
      unfold hdB
      rw [at_append, if_pos (by rw [size_append, size_append, be8_size, be8_size, size_one]; omega), at_append, if_neg (by rw [size_append, be8_size, size_one]; omega), size_append, be8_size, size_one]
      congr 1; omega
    · rw [if_neg (by omega), (at_none _ _).2 (by rw [be8_size]; omega)]
  unfold lenF
  have hv : valB (be8 b.size) = b.size := by have := be8_valB (b.size : Int) (by omega) (by omega); omega
  rw [this, hv, if_pos hb]
theorem frIn_body (at_ kind st : Int) (b : ByteArray) (hb : b.size ≤ 4011) : bodyF (frIn at_ kind st b) = b := by
  unfold bodyF
  rw [frIn_len _ _ _ _ hb]
  apply ba_at
  intro i
  rw [at_extract]
  by_cases h : i < b.size
  · rw [if_pos (by omega), frIn_at _ _ _ _ hb _ (by omega)]
    unfold hdB
    rw [at_append, if_neg (by rw [size_append, size_append, be8_size, be8_size, size_one]; omega), size_append, size_append, be8_size, be8_size, size_one]
    congr 1; omega
  · rw [if_neg (by omega), (at_none _ _).2 (by omega)]
/-- what was put is found -/
theorem get_put (at_ kind st : Int) (b : ByteArray) (hb : b.size ≤ 4011) (h0 : 1 ≤ st) (h1 : st ≤ 18446744073709551615) : getF (frP at_ kind st b) at_ kind = some (b, st) := by
  have hs := frP_stamp at_ kind st b hb (by omega) h1 0 (by decide)
  have hz := frP_size at_ kind st b hb
  have hb' : bodyF (strip (frP at_ kind st b)) = b := by
    unfold frP
    rw [strip_lay _ _ (frIn_size _ _ _ _ hb), frIn_body _ _ _ _ hb]
  unfold getF
  rw [hb', hs, if_pos ⟨hz, by omega, rfl⟩]
theorem lenF_le (inn : ByteArray) : lenF inn ≤ 4011 := by unfold lenF; split <;> omega
theorem bodyF_size (inn : ByteArray) (h : inn.size = 4032) : (bodyF inn).size = lenF inn := by
  have hl : lenF inn ≤ 4011 := by unfold lenF; split <;> omega
  unfold bodyF
  rw [ByteArray.size_extract]; omega
theorem valB_lt (s : ByteArray) : valB s < 256 ^ s.size := by
  have := valN_lt s.data.toList
  rwa [data_len] at this
theorem stampAt_lt (page : ByteArray) (j : Nat) : (stampAt page j : Int) ≤ 18446744073709551615 := by
  have := valB_lt (page.extract (512 * j) (512 * j + 8))
  have h2 : (page.extract (512 * j) (512 * j + 8)).size ≤ 8 := by rw [ByteArray.size_extract]; omega
  have h3 : 256 ^ (page.extract (512 * j) (512 * j + 8)).size ≤ 256 ^ 8 := Nat.pow_le_pow_right (by decide) h2
  unfold stampAt
  omega
/-- what is found was put -/
theorem get_some {page : ByteArray} {at_ kind st : Int} {b : ByteArray} (h : getF page at_ kind = some (b, st)) : page = frP at_ kind st b ∧ 1 ≤ st ∧ st ≤ 18446744073709551615 ∧ b.size ≤ 4011 := by
  unfold getF at h
  split at h
  case isFalse => cases h
  case isTrue hc =>
    obtain ⟨c1, c2, c3⟩ := hc
    simp only [Option.some.injEq, Prod.mk.injEq] at h
    obtain ⟨rfl, rfl⟩ := h
    have hz := bodyF_size (strip page) (strip_size page c1)
    have hl := lenF_le (strip page)
    exact ⟨c3.symm, by omega, stampAt_lt page 0, by omega⟩
/-- all sectors of what is found have one stamp -/
theorem get_stamps {page : ByteArray} {at_ kind st : Int} {b : ByteArray} (h : getF page at_ kind = some (b, st)) (j : Nat) (hj : j < 8) : (stampAt page j : Int) = st := by
  obtain ⟨h1, h2, h3, h4⟩ := get_some h
  rw [h1]
  exact frP_stamp at_ kind st b h4 (by omega) h3 j hj
/-- the greatest stamp -/
def newF (page : ByteArray) : Nat → Nat
  | 0 => 0
  | j + 1 => max (newF page j) (stampAt page j)
theorem newF_le (page : ByteArray) (m : Nat) : ∀ k, (∀ j, j < k → stampAt page j ≤ m) → newF page k ≤ m
  | 0, _ => Nat.zero_le _
  | k + 1, h => Nat.max_le.2 ⟨newF_le page m k (fun j hj => h j (by omega)), h k (by omega)⟩
theorem le_newF (page : ByteArray) : ∀ k j, j < k → stampAt page j ≤ newF page k
  | k + 1, j, h => by
    show _ ≤ max _ _
    by_cases e : j = k
    · subst e; exact Nat.le_max_right _ _
    · exact Nat.le_trans (le_newF page k j (by omega)) (Nat.le_max_left _ _)
end Go.Proofs.Ytlmngghkhnnaeaa
