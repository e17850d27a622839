/- The document's index of keys (chapter 18): the walks of its at, Find, Seq, Check. -/
import Derived.Test.YtiadoimdohnebaaIdBox
import Derived.Test.YtiadoimdohnebaaReg
namespace Go.Proofs.Ytiadoimdohnebaa
open Go.RowKit
set_option maxRecDepth 100000
set_option maxHeartbeats 1000000
set_option linter.unusedVariables false
set_option linter.unusedSimpArgs false
structure K18 where
  ten : Int
  text : ByteArray
  body : ByteArray
  reply : ByteArray
  seq : Int
def K18.cells (k : K18) : List Value := [.int .u32 k.ten, .string k.text, .string k.body, .string k.reply, .int .u64 k.seq]
def K18.rec_ (k : K18) : Rec := ⟨k.body, k.reply, k.seq⟩
/-- an index in memory -/
structure IxIs (w : World) (B p : Nat) (v : Value) (l : List K18) : Prop where
  blk : w.heap[p]? = some (.cells #[v] 56 (0, 0))
  row : w.ownsRow B 67 5 v l.length (l.flatMap K18.cells)
  low : B ≤ p
  ne : v.ownBlock ≠ some p
theorem flat_get : ∀ (l : List K18) (i : Nat) (k : K18) (j : Nat) (u : Value), l[i]? = some k → k.cells[j]? = some u → (l.flatMap K18.cells)[i * 5 + j]? = some u
  | [], i, k, j, u, h, _ => by simp at h
  | a :: l, 0, k, j, u, h, hu => by
    simp only [List.getElem?_cons_zero, Option.some.injEq] at h
    subst h
    have hj : j < 5 := (List.getElem?_eq_some_iff.1 hu).1
    rw [List.flatMap_cons, Nat.zero_mul, Nat.zero_add, List.getElem?_append_left (by exact hj)]
    exact hu
  | a :: l, i + 1, k, j, u, h, hu => by
    rw [List.getElem?_cons_succ] at h
    rw [List.flatMap_cons, List.getElem?_append_right (by show 5 ≤ _; omega)]
    have := flat_get l i k j u h hu
    rw [show (i + 1) * 5 + j - a.cells.length = i * 5 + j by show (i + 1) * 5 + j - 5 = _; omega]
    exact this
theorem IxIs.at_ {w : World} {B p : Nat} {v : Value} {l : List K18} (h : IxIs w B p v l) {i : Nat} {k : K18} (hk : l[i]? = some k) : ∃ g cap, v = .slice (some ⟨g, 0, none⟩) l.length cap ∧
    w.cell? ⟨g, i * 5, none⟩ = some (.int .u32 k.ten) ∧ w.cell? ⟨g, i * 5 + 1, none⟩ = some (.string k.text) ∧ w.cell? ⟨g, i * 5 + 2, none⟩ = some (.string k.body) ∧ w.cell? ⟨g, i * 5 + 3, none⟩ = some (.string k.reply) ∧ w.cell? ⟨g, i * 5 + 4, none⟩ = some (.int .u64 k.seq) := by
  have hi := (List.getElem?_eq_some_iff.1 hk).1
  have hr := h.row
  rcases hr.2 with ⟨_, h0⟩ | ⟨g, cap, cur, he, hbg, hg, rest⟩
  · omega
  · have key : ∀ j u, k.cells[j]? = some u → w.cell? ⟨g, i * 5 + j, none⟩ = some u := fun j u hu => by
      have := hr.cells (g := g) (by rw [he]; rfl) (i * 5 + j) u (flat_get l i k j u hk hu)
      rw [Go.WideShapes.add_plain, Nat.zero_add] at this
      exact this
    exact ⟨g, cap, he, by simpa using key 0 _ rfl, key 1 _ rfl, key 2 _ rfl, key 3 _ rfl, key 4 _ rfl⟩
theorem IxIs.shape {w : World} {B p : Nat} {v : Value} {l : List K18} (h : IxIs w B p v l) : ∃ a cap, v = .slice a l.length cap := by
  rcases h.row.2 with ⟨he, h0⟩ | ⟨g, cap, cur, he, _⟩
  · exact ⟨none, 0, by rw [he, h0]⟩
  · exact ⟨_, _, he⟩
theorem IxIs.keep {F : Nat → Prop} {w w' : World} {B p : Nat} {v : Value} {l : List K18} (h : IxIs w B p v l) (hk : Keep F w w') (h1 : ¬ F p) (h2 : ∀ k, v.ownBlock = some k → ¬ F k) : IxIs w' B p v l := by
  refine ⟨hk.blk h.blk h1, ⟨h.row.1, ?_⟩, h.low, h.ne⟩
  rcases h.row.2 with hn | ⟨g, cap, cur, he, hb, hg, rest⟩
  · exact .inl hn
  · exact .inr ⟨g, cap, cur, he, hb, hk.blk hg (h2 g (by rw [he]; rfl)), rest⟩
theorem IxIs.below {w w' : World} {B p : Nat} {v : Value} {l : List K18} (h : IxIs w B p v l) (hb : Below w.heap.size w w') : IxIs w' B p v l := h.keep (Keep.ofBelow hb (fun _ => False)) (fun h => h) (fun _ _ h => h)
theorem IxIs.blk_row {w : World} {B p : Nat} {v : Value} {l : List K18} (h : IxIs w B p v l) {k : Nat} (hk : v.ownBlock = some k) : B ≤ k ∧ ∃ c, w.heap[k]? = some (.cells c 67 (0, 0)) := by
  rcases h.row.2 with ⟨he, _⟩ | ⟨g, cap, cur, he, hb, hg, rest⟩
  · rw [he] at hk; cases hk
  · rw [he] at hk; cases hk; exact ⟨hb, cur, hg⟩
def isK (t : Int) (x : ByteArray) (k : K18) : Bool := k.ten == t && k.text.toList == x.toList
theorem isK_iff (t : Int) (x : ByteArray) (k : K18) : isK t x k = true ↔ k.ten = t ∧ k.text = x := by
  unfold isK
  rw [Bool.and_eq_true, beq_iff_eq, ← beq_toListBytes, Go.MapKept.bytes_beq]
/-- where a key is kept -/
def atK (t : Int) (x : ByteArray) : List K18 → Option Nat
  | [] => none
  | k :: l => if isK t x k = true then some 0 else (atK t x l).map (· + 1)
theorem atK_some (t : Int) (x : ByteArray) : ∀ (l : List K18) (i : Nat) (k : K18), (∀ (j : Nat) y, j < i → l[j]? = some y → isK t x y = false) → l[i]? = some k → isK t x k = true → atK t x l = some i
  | [], i, k, _, h, _ => by simp at h
  | a :: l, 0, k, _, h, hk => by
    simp only [List.getElem?_cons_zero, Option.some.injEq] at h
    subst h
    unfold atK; rw [if_pos hk]
  | a :: l, i + 1, k, hno, h, hk => by
    have h0 := hno 0 a (by omega) rfl
    unfold atK
    rw [if_neg (by rw [h0]; decide), atK_some t x l i k (fun j y hj hy => hno (j + 1) y (by omega) (by rw [List.getElem?_cons_succ]; exact hy)) (by rw [List.getElem?_cons_succ] at h; exact h) hk]
    rfl
theorem atK_none (t : Int) (x : ByteArray) : ∀ (l : List K18), (∀ (j : Nat) y, l[j]? = some y → isK t x y = false) → atK t x l = none
  | [], _ => rfl
  | a :: l, hno => by
    have h0 := hno 0 a rfl
    unfold atK
    rw [if_neg (by rw [h0]; decide), atK_none t x l (fun j y hy => hno (j + 1) y (by rw [List.getElem?_cons_succ]; exact hy))]
    rfl
theorem atK_get (t : Int) (x : ByteArray) : ∀ (l : List K18) (i : Nat), atK t x l = some i → ∃ k, l[i]? = some k ∧ isK t x k = true
  | [], i, h => by simp [atK] at h
  | a :: l, i, h => by
    unfold atK at h
    by_cases ha : isK t x a = true
    · rw [if_pos ha] at h
      injection h with h
      subst h
      exact ⟨a, rfl, ha⟩
    · rw [if_neg ha, Option.map_eq_some_iff] at h
      obtain ⟨j, hj, rfl⟩ := h
      obtain ⟨k, h1, h2⟩ := atK_get t x l j hj
      exact ⟨k, by rw [List.getElem?_cons_succ]; exact h1, h2⟩
def atI (o : Option Nat) : Int := match o with | none => -1 | some i => i
section
variable {w : World} {B p : Nat} {v : Value} {l : List K18}
theorem at_any (t : Int) (x : ByteArray) (hX : IxIs w B p v l) (hl : l.length ≤ 1000000) :
    Calls Try.prog 53 #[.pointer (some ⟨p, 0, none⟩), .int .u32 t, .string x] w fun e w' => e = .returned (.int .i64 (atI (atK t x l))) ∧ w' = w := by
  obtain ⟨va, vc, rfl⟩ := hX.shape
  have hc0 : w.cell? ⟨p, 0, none⟩ = some (.slice va l.length vc) := by rw [blk_cell hX.blk]; rfl
  have HX := Lib.hid hX
  obtain ⟨r, hr⟩ : ∃ r, r = atI (atK t x l) := ⟨_, rfl⟩
  rw [← hr]
  have HR := Lib.hid hr
  clear hX hr
  go_enter Try.func53, Try.ntmps53
  go_wp2_with fail
  go_loopw [7] (fun s wr => ∃ i : Nat, i ≤ l.length ∧ s = .int .i64 i ∧ Hid (∀ (j : Nat) y, j < i → l[j]? = some y → isK t x y = false) ∧ Hid (wr = w)) (fun s _ => l.length - (intOf s).toNat)
  case atStart => exact ⟨0, by omega, rfl, Lib.hid (fun j y hj => by omega), Lib.hid rfl⟩
  case round =>
    obtain ⟨i, hi, rfl, HE, HW⟩ := hrel
    obtain rfl := HW.out.symm
    by_cases hlt : i < l.length
    · obtain ⟨k, hk⟩ : ∃ k, l[i]? = some k := ⟨_, List.getElem?_eq_getElem hlt⟩
      have i1 : decide ((i : Int) < (l.length : Int)) = true := decide_eq_true (by omega)
      obtain ⟨g, cap, he, k0, k1, k2, k3, k4⟩ := HX.out.at_ hk
      injection he with he _ hec
      subst he; subst hec
      have HK := Lib.hid hk
      clear hk
      by_cases ht : k.ten = t
      · have i2 : (k.ten == t) = true := beq_iff_eq.2 ht
        by_cases hx : k.text = x
        · have i3 : (k.text.toList == x.toList) = true := by rw [hx]; exact beq_iff_eq.2 rfl
          have hr2 : r = (i : Int) := by rw [HR.out, atK_some t x l i k HE.out HK.out ((isK_iff t x k).2 ⟨ht, hx⟩)]; rfl
          subst hr2
          clear hx ht
          go_wp2_with fail
          go_ret
          exact ⟨rfl, rfl⟩
        · have i3 : (k.text.toList == x.toList) = false := by rw [← beq_toListBytes]; exact Bool.eq_false_iff.2 (fun h => hx ((Go.MapKept.bytes_beq _ _).1 h))
          have HF := Lib.hid (show isK t x k = false from Bool.eq_false_iff.2 (fun h => hx ((isK_iff t x k).1 h).2))
          clear hx ht
          go_wp2_with fail
          refine ⟨⟨i + 1, by omega, rfl, Lib.hid (fun j y hj hy => ?_), Lib.hid (by trivial)⟩, by simp [intOf]; omega⟩
          by_cases hji : j = i
          · subst hji; rw [HK.out] at hy; cases hy; exact HF.out
          · exact HE.out j y (by omega) hy
      · have i2 : (k.ten == t) = false := beq_eq_false_iff_ne.2 ht
        have HF := Lib.hid (show isK t x k = false from Bool.eq_false_iff.2 (fun h => ht ((isK_iff t x k).1 h).1))
        clear ht
        go_wp2_with fail
        refine ⟨⟨i + 1, by omega, rfl, Lib.hid (fun j y hj hy => ?_), Lib.hid (by trivial)⟩, by simp [intOf]; omega⟩
        by_cases hji : j = i
        · subst hji; rw [HK.out] at hy; cases hy; exact HF.out
        · exact HE.out j y (by omega) hy
    · obtain rfl : i = l.length := by omega
      have i1 : decide ((l.length : Int) < (l.length : Int)) = false := decide_eq_false (by omega)
      have hr2 : r = -1 := by
        rw [HR.out, atK_none t x l (fun j y hy => HE.out j y (List.getElem?_eq_some_iff.1 hy).1 hy)]; rfl
      subst hr2
      go_wp2_with fail
      go_ret
      exact ⟨rfl, rfl⟩
theorem chk18_any (x : ByteArray) (hx : x.size ≤ maxLen) (w : World) : Calls Try.prog 31 #[.string x] w fun e w' => e = .returned (.bool (chk x)) ∧ w' = w := by
  have hx' : x.size ≤ 9223372036854775807 := by unfold maxLen at hx; omega
  obtain ⟨r, hr⟩ : ∃ r, r = chk x := ⟨_, rfl⟩
  rw [← hr]
  unfold chk at hr
  rcases (show x.size = 0 ∨ (0 < x.size ∧ x.size ≤ 16) ∨ 16 < x.size by omega) with h | ⟨h1, h2⟩ | h
  · obtain rfl : r = false := by rw [hr]; simp [h]
    have i1 : decide ((x.size : Int) ≥ 1) = false := decide_eq_false (by omega)
    clear hr
    go_enter Try.func31, Try.ntmps31
    go_wp2_with fail
    go_ret
    exact ⟨rfl, rfl⟩
  · obtain rfl : r = true := by rw [hr]; simp [h1, h2]
    have i1 : decide ((x.size : Int) ≥ 1) = true := decide_eq_true (by omega)
    have i2 : decide ((x.size : Int) ≤ 16) = true := decide_eq_true (by omega)
    clear hr
    go_enter Try.func31, Try.ntmps31
    go_wp2_with fail
    go_ret
    exact ⟨rfl, rfl⟩
  · obtain rfl : r = false := by rw [hr]; simp; omega
    have i1 : decide ((x.size : Int) ≥ 1) = true := decide_eq_true (by omega)
    have i2 : decide ((x.size : Int) ≤ 16) = false := decide_eq_false (by omega)
    clear hr
    go_enter Try.func31, Try.ntmps31
    go_wp2_with fail
    go_ret
    exact ⟨rfl, rfl⟩
end
end Go.Proofs.Ytiadoimdohnebaa
