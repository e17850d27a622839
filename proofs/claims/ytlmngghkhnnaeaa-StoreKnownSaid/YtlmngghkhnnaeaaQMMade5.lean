/- The walks of made and goes of the statements on the store. A store that a statement holds, and blocks of the statement's own beside it; each call. The walk of the example of the statements on the store. -/
import Derived.Test.YtlmngghkhnnaeaaQOpn
import Derived.Lib.SlBytesConst
namespace Go.Proofs.Ytlmngghkhnnaeaa
open Go.RowKit
set_option maxRecDepth 100000
set_option maxHeartbeats 1000000
set_option linter.unusedVariables false
set_option linter.unusedSimpArgs false
/-- the store of a new disk -/
def S0 (n : Nat) : SS := openSS (newS n) n
theorem S0_law {n : Nat} (h4 : 4 ≤ n ∧ n ≤ 4096) : Inv (S0 n) n ∧ (S0 n).st = zeroSt n ∧ (S0 n).was = zeroSt n ∧ (S0 n).stamp = 0 ∧ (S0 n).D = newS n ∧ (S0 n).marks = [] := by
  obtain ⟨h1, h2, h3, h5⟩ := open_inv rfl h4 (Int.le_refl 0) (disc_new h4)
  exact ⟨h1, h2, h3, by have h6 := h1.stamp; show (openSS (newS n) n).stamp = 0; omega, rfl, rfl⟩
theorem made_any (n : Nat) (w : World) (h4 : 4 ≤ n) (h5 : n ≤ 4096) : Calls Try.prog 6 #[.int .i64 n] w fun e w' => ∃ pd M, e = .returned (.tuple #[dV pd, pS M.p]) ∧ SIs w' noV M (S0 n) ∧ M.pd = pd ∧ (∀ i, M.foot i → w.heap.size ≤ i) ∧ Below w.heap.size w w' := by
  have HN := Lib.hid (new_ok n w (by omega) h5)
  have hst : (openO (readP (newS n)) n).stamp ≠ 18446744073709551615 := by
    have := (S0_law ⟨h4, h5⟩).2.2.2.1
    have e : (S0 n).stamp = (openO (readP (newS n)) n).stamp := rfl
    rw [← e, this]; decide
  have HST := Lib.hid hst
  clear hst
  unfold dV at HN
  unfold dV pS
  go_enter Try.func6, Try.ntmps6
  go_wp2_with fail
  refine HN.out.mono ?_
  rintro e w1 ⟨rfl, hD, hb⟩
  have HB1 := Lib.hid hb
  have HD1 := Lib.hid hD
  have HO := Lib.hid (open_any n w1 hD rfl (by simp [newS]) h4)
  unfold dV at HO
  clear hD hb
  go_wp2_with fail
  refine HO.out.mono ?_
  rintro e w2 ⟨_, h2, h3⟩
  obtain ⟨M, rfl, hS, hpd, hf⟩ := h2 HST.out
  have HB2 := Lib.hid (HB1.out.trans (h3.mono HB1.out.size))
  have HS := Lib.hid hS
  have HF := Lib.hid hf
  have HPD := Lib.hid hpd
  unfold pS
  clear hS hf hpd h2 h3
  go_wp2_with fail
  go_ret2
  refine ⟨_, M, rfl, HS.out, HPD.out, fun i hi => ?_, HB2.out⟩
  have hs1 := HB1.out.size
  rcases HF.out i hi with e | e
  · rcases e with e | e | e | e
    · omega
    · omega
    · omega
    · cases e
  · omega
/-! ### the acts, as what they leave -/
section
variable {V : Nat → Prop} {M : SM} {S : SS}
theorem take_n (bv : Value) (u : ByteArray) (w : World) (h : SIs w V M S) (hB : BS w bv u) (hu : u.size ≤ 70368744177664) : Calls Try.prog 9 #[pS M.p, bv] w fun e w' => ∃ V', e = .returned (.tuple #[.int .i64 (takeF S u).1, .int .i64 (takeF S u).2.1]) ∧ SNext w w' V V' M M (takeF S u).2.2 :=
  (take_any bv u w h hB hu).mono (by rintro e w' ⟨V', h1, h2, h3, h4⟩; exact ⟨V', h1, SNext.ofUpd h2 h3 h4⟩)
theorem give_n (x : Int) (w : World) (h : SIs w V M S) : Calls Try.prog 15 #[pS M.p, .int .i64 x] w fun e w' => e = .returned (.int .i64 (giveF S x).1) ∧ SNext w w' V V M M (giveF S x).2 :=
  (give_any x w h).mono (by rintro e w' ⟨h1, h2, h3⟩; exact ⟨h1, SNext.ofUpd h2 h3 (fun i hi => .inl hi)⟩)
theorem setr_n (x : Int) (w : World) (h : SIs w V M S) : Calls Try.prog 14 #[pS M.p, .int .i64 x] w fun e w' => e = .returned (.int .i64 (setrF S x).1) ∧ SNext w w' V V M M (setrF S x).2 :=
  (setr_any x w h).mono (by rintro e w' ⟨h1, h2, h3⟩; exact ⟨h1, SNext.ofUpd h2 h3 (fun i hi => .inl hi)⟩)
end
theorem takeF_eq {S : SS} {u : ByteArray} {p : Nat} {r : List Nat} (hd : S.dd = false) (hu : u.size ≤ 4011) (hf : freeL S.st.taken S.st.held = p :: r) : takeF S u = ((p : Int), 0, { S with st := takeSt S.st p u }) := by
  unfold takeF takeS
  rw [if_neg (by rw [hd]; decide), if_neg (by omega), hf]
theorem SNext.below {w w' : World} {V V' : Nat → Prop} {M M' : SM} {S' : SS} {B : Nat} (h : SNext w w' V V' M M' S') (hB : B ≤ w.heap.size) (hf : ∀ i, M.foot i → B ≤ i) : Below B w w' ∧ ∀ i, M'.foot i → B ≤ i :=
  ⟨h.keep.below hB hf, fun i hi => by
    rcases h.foot i hi with e | e
    · exact hf i e
    · omega⟩
/-! ### the example -/
def exA : ByteArray := ⟨#[97]⟩
def exB : ByteArray := ⟨#[98]⟩
def exC : ByteArray := ⟨#[99]⟩
def exSt1 : St := ⟨0, [false, false, true, false, false], List.replicate 5 false, [(2, exA)], true⟩
def exSt2 : St := ⟨0, [false, false, true, true, false], List.replicate 5 false, [(2, exA), (3, exB)], true⟩
def exSt3 : St := ⟨2, [false, false, true, true, false], List.replicate 5 false, [(2, exA), (3, exB)], true⟩
def exSt5 : St := ⟨2, [false, false, true, false, false], List.replicate 5 false, [(2, exA)], true⟩
def exSt6 : St := ⟨2, [false, false, true, true, false], List.replicate 5 false, [(2, exA), (3, exC)], true⟩
theorem ex1 {S : SS} (hd : S.dd = false) (h : S.st = zeroSt 5) : takeF S exA = (2, 0, { S with st := exSt1 }) := by
  rw [takeF_eq (p := 2) (r := [3, 4]) hd (by decide) (by rw [h]; rfl), h]; rfl
theorem ex2 {S : SS} (hd : S.dd = false) (h : S.st = exSt1) : takeF S exB = (3, 0, { S with st := exSt2 }) := by
  rw [takeF_eq (p := 3) (r := [4]) hd (by decide) (by rw [h]; rfl), h]; rfl
theorem ex3 {S : SS} (hd : S.dd = false) (h : S.st = exSt2) : setrF S 2 = (0, { S with st := exSt3 }) := by
  unfold setrF setrS
  rw [if_neg (by rw [hd]; decide), h, if_neg (by decide)]; rfl
theorem ex4 {S : SS} (hd : S.dd = false) (h : S.st = exSt3) : giveF S 2 = (1, S) := by
  unfold giveF giveS
  rw [if_neg (by rw [hd]; decide), h, if_pos (by decide)]
theorem ex5 {S : SS} (hd : S.dd = false) (h : S.st = exSt3) : giveF S 3 = (0, { S with st := exSt5 }) := by
  unfold giveF giveS
  rw [if_neg (by rw [hd]; decide), h, if_neg (by decide)]; rfl
theorem ex6 {S : SS} (hd : S.dd = false) (h : S.st = exSt5) : takeF S exC = (3, 0, { S with st := exSt6 }) := by
  rw [takeF_eq (p := 3) (r := [4]) hd (by decide) (by rw [h]; rfl), h]; rfl
theorem ex7 {S : SS} (hd : S.dd = false) (h : S.st = exSt6) : readF S 3 = (0, exC) := by
  unfold readF readS
  rw [if_neg (by rw [hd]; decide), h]; rfl
theorem ex8 {S : SS} (hd : S.dd = false) (h : S.st = exSt6) : leftN S = 1 := by
  unfold leftN
  rw [if_neg (by rw [hd]; decide), h]; rfl
end Go.Proofs.Ytlmngghkhnnaeaa
namespace Go.Proofs.Ytlmngghkhnnaeaa
open Go.RowKit
set_option maxRecDepth 100000
set_option maxHeartbeats 1000000
set_option linter.unusedVariables false
set_option linter.unusedSimpArgs false
structure AtS (w0 w : World) (M : SM) (S : SS) (A : Nat → Prop) : Prop where
  is : ∃ V, SIs w V M S
  lo : ∀ i, M.foot i → w0.heap.size ≤ i ∧ ¬ A i
  below : Below w0.heap.size w0 w
  alt : ∀ i, A i → i < w.heap.size
/-- blocks of A, and bytes that are owned, stay -/
def KA (A : Nat → Prop) (w w' : World) : Prop := (∀ i, A i → w'.heap[i]? = w.heap[i]?) ∧ ∀ B v s, Own 5 w B v s → Own 5 w' B v s
theorem KA.refl (A : Nat → Prop) (w : World) : KA A w w := ⟨fun _ _ => rfl, fun _ _ _ h => h⟩
theorem KA.trans {A : Nat → Prop} {a b c : World} (h : KA A a b) (k : KA A b c) : KA A a c := ⟨fun i hi => (k.1 i hi).trans (h.1 i hi), fun B v s ho => k.2 B v s (h.2 B v s ho)⟩
theorem KA.below {A : Nat → Prop} {w w' : World} (hb : Below w.heap.size w w') (hA : ∀ i, A i → i < w.heap.size) : KA A w w' := ⟨fun i hi => hb.block i (hA i hi), fun B v s ho => ho.below hb⟩
def Does (w0 : World) (M : SM) (A : Nat → Prop) (w w' : World) (S' : SS) : Prop := ∃ M', M'.p = M.p ∧ M'.pd = M.pd ∧ AtS w0 w' M' S' A ∧ KA A w w'
section
variable {w0 w : World} {M : SM} {S : SS} {A : Nat → Prop}
theorem AtS.next {w' : World} {V V' : Nat → Prop} {M' : SM} {S' : SS} (h : AtS w0 w M S A) (hV : SIs w V M S) (hn : SNext w w' V V' M M' S') : AtS w0 w' M' S' A ∧ KA A w w' := by
  have hlt := fun i hi => hV.lt i hi
  refine ⟨⟨⟨V', hn.is⟩, fun i hi => ?_, h.below.trans (hn.keep.below (B := w0.heap.size) h.below.size (fun i hi => (h.lo i hi).1)), fun i hi => Nat.lt_of_lt_of_le (h.alt i hi) hn.keep.size⟩, fun i hi => hn.keep.block i (h.alt i hi) (fun hf => (h.lo i hf).2 hi), fun B v s ho => ho.keep hn.keep (ho.not_in hV.nbytes)⟩
  rcases hn.foot i hi with e | e
  · exact h.lo i e
  · exact ⟨Nat.le_trans h.below.size e, fun ha => by have := h.alt i ha; omega⟩
theorem AtS.does {w' : World} {V V' : Nat → Prop} {M' : SM} {S' : SS} (h : AtS w0 w M S A) (hV : SIs w V M S) (hn : SNext w w' V V' M M' S') : Does w0 M A w w' S' :=
  ⟨M', hn.p, hn.pd, (h.next hV hn).1, (h.next hV hn).2⟩
theorem AtS.later {w' : World} (h : AtS w0 w M S A) (hb : Below w.heap.size w w') : AtS w0 w' M S A ∧ KA A w w' := by
  obtain ⟨V, hV⟩ := h.is
  exact h.next hV (SNext.refl hV hb)
theorem at_take (bv : Value) (u : ByteArray) (h : AtS w0 w M S A) (hB : BS w bv u) (hu : u.size ≤ 70368744177664) : Calls Try.prog 9 #[pS M.p, bv] w fun e w' => e = .returned (.tuple #[.int .i64 (takeF S u).1, .int .i64 (takeF S u).2.1]) ∧ Does w0 M A w w' (takeF S u).2.2 := by
  obtain ⟨V, hV⟩ := h.is
  exact (take_n bv u w hV hB hu).mono (by rintro e w' ⟨V', h1, h2⟩; exact ⟨h1, h.does hV h2⟩)
theorem at_give (x : Int) (h : AtS w0 w M S A) : Calls Try.prog 15 #[pS M.p, .int .i64 x] w fun e w' => e = .returned (.int .i64 (giveF S x).1) ∧ Does w0 M A w w' (giveF S x).2 := by
  obtain ⟨V, hV⟩ := h.is
  exact (give_n x w hV).mono (by rintro e w' ⟨h1, h2⟩; exact ⟨h1, h.does hV h2⟩)
theorem at_setr (x : Int) (h : AtS w0 w M S A) : Calls Try.prog 14 #[pS M.p, .int .i64 x] w fun e w' => e = .returned (.int .i64 (setrF S x).1) ∧ Does w0 M A w w' (setrF S x).2 := by
  obtain ⟨V, hV⟩ := h.is
  exact (setr_n x w hV).mono (by rintro e w' ⟨h1, h2⟩; exact ⟨h1, h.does hV h2⟩)
theorem at_mark (h : AtS w0 w M S A) (hm : S.marks.length ≤ 1000000) : Calls Try.prog 23 #[pS M.p] w fun e w' => e = .returned (.int .i64 (markF S).1) ∧ Does w0 M A w w' (markF S).2 := by
  obtain ⟨V, hV⟩ := h.is
  exact (mark_any w hV hm).mono (by rintro e w' ⟨h1, M', h2⟩; exact ⟨h1, h.does hV h2⟩)
theorem at_back (x : Int) (h : AtS w0 w M S A) (hm : S.marks.length ≤ 1000001) : Calls Try.prog 22 #[pS M.p, .int .i64 x] w fun e w' => e = .returned (.int .i64 (backF S x).1) ∧ Does w0 M A w w' (backF S x).2 := by
  obtain ⟨V, hV⟩ := h.is
  exact (back_any x w hV hm).mono (by rintro e w' ⟨h1, M', h2⟩; exact ⟨h1, h.does hV h2⟩)
theorem at_abort (h : AtS w0 w M S A) : Calls Try.prog 16 #[pS M.p] w fun e w' => e = .returned (.tuple #[]) ∧ Does w0 M A w w' (abortS S) := by
  obtain ⟨V, hV⟩ := h.is
  exact (abort_any w hV).mono (by rintro e w' ⟨h1, M', h2⟩; exact ⟨h1, h.does hV h2⟩)
theorem at_commit (h : AtS w0 w M S A) (hs : S.stamp + 1 ≤ 18446744073709551615) : Calls Try.prog 8 #[pS M.p] w fun e w' => ∃ L, L.Perm (S.st.fresh.map (·.1)) ∧ e = .returned (.int .i64 (commitF S L).1) ∧ Does w0 M A w w' (commitF S L).2 := by
  obtain ⟨V, hV⟩ := h.is
  exact (commit_any w hV hs).mono (by rintro e w' ⟨L, hL, h1, M', h2⟩; exact ⟨L, hL, h1, h.does hV h2⟩)
theorem at_root (h : AtS w0 w M S A) : Calls Try.prog 20 #[pS M.p] w fun e w' => e = .returned (.int .i64 (if S.dd = true then 0 else S.st.root)) ∧ w = w' := by
  obtain ⟨V, hV⟩ := h.is
  exact sroot_any w hV
theorem at_dead (h : AtS w0 w M S A) : Calls Try.prog 24 #[pS M.p] w fun e w' => e = .returned (.bool S.dd) ∧ w = w' := by
  obtain ⟨V, hV⟩ := h.is
  exact sdead_any w hV
theorem at_left (h : AtS w0 w M S A) : Calls Try.prog 17 #[pS M.p] w fun e w' => e = .returned (.int .i64 (leftN S)) ∧ AtS w0 w' M S A ∧ KA A w w' ∧ Below w.heap.size w w' := by
  obtain ⟨V, hV⟩ := h.is
  exact (sleft_any w hV).mono (by rintro e w' ⟨h1, h2⟩; exact ⟨h1, (h.later h2).1, (h.later h2).2, h2⟩)
theorem at_read (x : Int) (h : AtS w0 w M S A) : Calls Try.prog 21 #[pS M.p, .int .i64 x] w fun e w' => ∃ v, e = .returned (.tuple #[v, .int .i64 (readF S x).1]) ∧ ((readF S x).1 = 0 → Own 5 w' w.heap.size v (readF S x).2) ∧ ((readF S x).1 ≠ 0 → v = .slice none 0 0) ∧ AtS w0 w' M S A ∧ KA A w w' ∧ Below w.heap.size w w' := by
  obtain ⟨V, hV⟩ := h.is
  exact (sread_any x w hV).mono (by rintro e w' ⟨v, h1, h2, h3, h4⟩; exact ⟨v, h1, h2, h3, (h.later h4).1, (h.later h4).2, h4⟩)
/-- the disk's own calls -/
theorem at_dread (x : Int) (h : AtS w0 w M S A) : Calls Try.prog 7 #[dV M.pd, .int .i64 x] w fun e w' => ∃ v c, e = .returned (.tuple #[v, .int .i64 c]) ∧ c = sureE S.D.dead S.D.L.length x 4096 ∧ (c = 0 → Own 5 w' w.heap.size v (readP S.D x)) ∧ (c ≠ 0 → v = .slice none 0 0) ∧ AtS w0 w' M S A ∧ KA A w w' ∧ Below w.heap.size w w' := by
  obtain ⟨V, hV⟩ := h.is
  exact (read_any x w hV.disk).mono (by rintro e w' ⟨v, c, h1, h2, h3, h4, h5⟩; exact ⟨v, c, h1, h2, h3, h4, (h.later h5).1, (h.later h5).2, h5⟩)
theorem at_dnext {w' : World} {D' : DS} {V : Nat → Prop} (h : AtS w0 w M S A) (hV : SIs w V M S) (hn : Next w w' M.pd M.bl M.bw M.ov D') (hl : D'.L.length = S.D.L.length) : Does w0 M A w w' (S.onto D') := by
  obtain ⟨ov', hs⟩ := hV.setDisk hn hl
  exact h.does hV hs
theorem at_dwrite (x : Int) (bv : Value) (u : ByteArray) (h : AtS w0 w M S A) (hB : Own 5 w 0 bv u) : Calls Try.prog 19 #[dV M.pd, .int .i64 x, bv] w fun e w' => ∃ c, e = .returned (.int .i64 c) ∧ c = writeE S.D x u ∧ Does w0 M A w w' (S.onto (writeR S.D x u)) := by
  obtain ⟨V, hV⟩ := h.is
  refine (write_any x bv u w hV.disk hB.bs (hB.not_in hV.disk.not_bytes)).mono ?_
  rintro e w' ⟨c, h1, h2, h3⟩
  exact ⟨c, h1, h2, at_dnext h hV h3 (by unfold writeR; split <;> rfl)⟩
theorem at_dkill (h : AtS w0 w M S A) : Calls Try.prog 25 #[dV M.pd] w fun e w' => e = .returned (.tuple #[]) ∧ Does w0 M A w w' (S.onto { S.D with dead := true }) := by
  obtain ⟨V, hV⟩ := h.is
  refine (kill_any w hV.disk).mono ?_
  rintro e w' ⟨h1, h2, h3⟩
  exact ⟨h1, at_dnext h hV (Next.ofKeep h2 (h3.mono (fun i hi => .inl hi))) rfl⟩
theorem at_open (n : Nat) (h : AtS w0 w M S A) (hd : S.D.dead = false) (hn : S.D.L.length = n) (h4 : 4 ≤ n) : Calls Try.prog 12 #[dV M.pd] w fun e w' =>
    ((openO (readP S.D) n).stamp = 18446744073709551615 → e = .returned (.tuple #[.pointer none, .int .i64 10])) ∧ ((openO (readP S.D) n).stamp ≠ 18446744073709551615 → ∃ M2, e = .returned (.tuple #[pS M2.p, .int .i64 0]) ∧ M2.pd = M.pd ∧ AtS w0 w' M2 (openSS S.D n) A) ∧ Below w.heap.size w w' ∧ AtS w0 w' M S A ∧ KA A w w' := by
  obtain ⟨V, hV⟩ := h.is
  refine (open_any n w hV.disk hd hn h4).mono ?_
  rintro e w' ⟨h1, h2, h3⟩
  obtain ⟨g1, g2⟩ := h.later h3
  refine ⟨h1, fun hs => ?_, h3, g1, g2⟩
  obtain ⟨M2, e1, e2, e3, e4⟩ := h2 hs
  refine ⟨M2, e1, e3, ⟨⟨noV, e2⟩, fun i hi => ?_, g1.below, g1.alt⟩⟩
  rcases e4 i hi with e | e
  · exact h.lo i (.inr (.inr (.inr (.inr (.inr e)))))
  · exact ⟨Nat.le_trans h.below.size e, fun ha => by have := h.alt i ha; omega⟩
end
end Go.Proofs.Ytlmngghkhnnaeaa
namespace Go.Proofs.Ytlmngghkhnnaeaa
open Go.RowKit
set_option maxRecDepth 100000
set_option maxHeartbeats 2000000
set_option linter.unusedVariables false
set_option linter.unusedSimpArgs false
def noA : Nat → Prop := fun _ => False
theorem made_at (w0 : World) (n : Nat) (h4 : 4 ≤ n) (h5 : n ≤ 4096) : Calls Try.prog 6 #[.int .i64 n] w0 fun e w' => ∃ M, e = .returned (.tuple #[dV M.pd, pS M.p]) ∧ AtS w0 w' M (S0 n) noA :=
  (made_any n w0 h4 h5).mono (by rintro e w' ⟨pd, M, h1, h2, rfl, h3, h6⟩; exact ⟨M, h1, ⟨⟨noV, h2⟩, fun i hi => ⟨h3 i hi, fun h => h⟩, h6, fun i hi => hi.elim⟩⟩)
theorem kc5 (w : World) (k : Nat) (C : Array Value) (n c : Nat) (h : w.heap.size = k) : (convert 28 28 (.slice (some ⟨k, 0, none⟩) n c)).run Try.prog (w.alloc (.cells C 5)) = .ok (.slice (some ⟨k, 0, none⟩) n c) (w.alloc (.cells C 5 (C.size, C.size + 1))) := by
  subst h; exact Lib.run_convert_bytes_const w _ _ C n c uBytes uByte
theorem lit1 (w : World) (x : Int) (u : ByteArray) (hu : Lib.strCells u = [.int .u8 x]) (hs : u.size = 1) : BS (w.alloc (.cells #[.int .u8 x] 5 (1, 2))) (.slice (some ⟨w.heap.size, 0, none⟩) 1 1) u := by
  have := BS.lit (w := w) (k := w.heap.size) rfl 5 u (1, 2) (c := #[.int .u8 x]) (by rw [hu]) (n := 1) hs.symm (by rw [hs]; decide)
  exact this
theorem goes_any (w : World) : Calls Try.prog 11 #[] w fun e w' => e = .returned (.bool true) ∧ Below w.heap.size w w' := by
  have HM := Lib.hid (made_at w 5 (by decide) (by decide))
  obtain ⟨i0, i1, i2, i3, i4, i5⟩ := S0_law (n := 5) (by decide)
  have hd0 : (S0 5).dd = false := i0.dd
  obtain ⟨S, hS⟩ : ∃ S, S = S0 5 := ⟨_, rfl⟩
  rw [← hS] at HM i0 i1 i2 i3 i4 i5 hd0
  have E1 := Lib.hid (ex1 hd0 i1)
  have E2 := Lib.hid (ex2 (S := { S with st := exSt1 }) hd0 rfl)
  have E3 := Lib.hid (ex3 (S := { S with st := exSt2 }) hd0 rfl)
  have E4 := Lib.hid (ex4 (S := { S with st := exSt3 }) hd0 rfl)
  have E5 := Lib.hid (ex5 (S := { S with st := exSt3 }) hd0 rfl)
  have E6 := Lib.hid (ex6 (S := { S with st := exSt5 }) hd0 rfl)
  have E7 := Lib.hid (ex7 (S := { S with st := exSt6 }) hd0 rfl)
  have E8 := Lib.hid (ex8 (S := { S with st := exSt6 }) hd0 rfl)
  have hI : Inv { S with st := exSt6 } 5 := by
    have h1 := i0.take exA
    rw [E1.out] at h1
    have h2 := h1.take exB
    rw [E2.out] at h2
    have h3 := h2.setr 2
    rw [E3.out] at h3
    have h5 := h3.give 3
    rw [E5.out] at h5
    have h6 := h5.take exC
    rw [E6.out] at h6
    exact h6
  have HC := Lib.hid fun (L : List Int) (hL : L.Perm (exSt6.fresh.map (·.1))) => show (commitF { S with st := exSt6 } L).1 = 0 by
    rcases commit_law hI (by show S.stamp + 1 ≤ _; rw [i3]; decide) hL with ⟨h, _⟩ | ⟨_, h⟩
    · exact h
    · have := h.fuse
      have e : S.D.fuse = -1 := by rw [i4]; rfl
      have e2 : 0 ≤ S.D.fuse := this
      omega
  have HST := Lib.hid (show S.stamp + 1 ≤ 18446744073709551615 by rw [i3]; decide)
  clear hI i0 i1 i2 i3 i4 i5 hd0 hS
  unfold pS at HM
  unfold dV at HM
  have hkc := kc5
  go_enter Try.func11, Try.ntmps11
  go_wp2_with fail
  refine HM.out.mono ?_
  rintro e w1 ⟨M, rfl, h1⟩
  obtain ⟨p, hp⟩ : ∃ p, p = M.p := ⟨_, rfl⟩
  rw [← hp]
  have H1 := Lib.hid (And.intro h1 hp)
  clear h1 hp
  go_wp2_with fail
  have h2 := at_take (.slice (some ⟨w1.heap.size, 0, none⟩) 1 1) exA (H1.out.1.later ((Below.refl _ w1).alloc (Nat.le_refl _) _)).1 (lit1 w1 97 exA rfl rfl) (by decide)
  rw [E1.out] at h2
  unfold pS at h2
  rw [← H1.out.2] at h2
  refine h2.mono ?_
  clear h2
  rintro e w2 ⟨rfl, M2, e1, e2, h1, _⟩
  have H2 := Lib.hid (And.intro h1 (show p = M2.p by rw [e1]; exact H1.out.2))
  clear h1 e1 e2
  go_wp2_with fail
  have h2 := at_take (.slice (some ⟨w2.heap.size, 0, none⟩) 1 1) exB (H2.out.1.later ((Below.refl _ w2).alloc (Nat.le_refl _) _)).1 (lit1 w2 98 exB rfl rfl) (by decide)
  rw [E2.out] at h2
  unfold pS at h2
  rw [← H2.out.2] at h2
  refine h2.mono ?_
  clear h2
  rintro e w3 ⟨rfl, M3, e1, e2, h1, _⟩
  have H3 := Lib.hid (And.intro h1 (show p = M3.p by rw [e1]; exact H2.out.2))
  clear h1 e1 e2
  go_wp2_with fail
  have h2 := at_setr 2 H3.out.1
  rw [E3.out] at h2
  unfold pS at h2
  rw [← H3.out.2] at h2
  refine h2.mono ?_
  clear h2
  rintro e w4 ⟨rfl, M4, e1, e2, h1, _⟩
  have H4 := Lib.hid (And.intro h1 (show p = M4.p by rw [e1]; exact H3.out.2))
  clear h1 e1 e2
  go_wp2_with fail
  have h2 := at_give 2 H4.out.1
  rw [E4.out] at h2
  unfold pS at h2
  rw [← H4.out.2] at h2
  refine h2.mono ?_
  clear h2
  rintro e w5 ⟨rfl, M5, e1, e2, h1, _⟩
  have H5 := Lib.hid (And.intro h1 (show p = M5.p by rw [e1]; exact H4.out.2))
  clear h1 e1 e2
  go_wp2_with fail
  have h2 := at_give 3 H5.out.1
  rw [E5.out] at h2
  unfold pS at h2
  rw [← H5.out.2] at h2
  refine h2.mono ?_
  clear h2
  rintro e w6 ⟨rfl, M6, e1, e2, h1, _⟩
  have H6 := Lib.hid (And.intro h1 (show p = M6.p by rw [e1]; exact H5.out.2))
  clear h1 e1 e2
  go_wp2_with fail
  have h2 := at_take (.slice (some ⟨w6.heap.size, 0, none⟩) 1 1) exC (H6.out.1.later ((Below.refl _ w6).alloc (Nat.le_refl _) _)).1 (lit1 w6 99 exC rfl rfl) (by decide)
  rw [E6.out] at h2
  unfold pS at h2
  rw [← H6.out.2] at h2
  refine h2.mono ?_
  clear h2
  rintro e w7 ⟨rfl, M7, e1, e2, h1, _⟩
  have H7 := Lib.hid (And.intro h1 (show p = M7.p by rw [e1]; exact H6.out.2))
  clear h1 e1 e2
  go_wp2_with fail
  have h2 := at_read 3 H7.out.1
  rw [E7.out] at h2
  unfold pS at h2
  rw [← H7.out.2] at h2
  refine h2.mono ?_
  clear h2
  rintro e w8 ⟨v, rfl, g1, _, h1, _, _⟩
  have hcv := BS.string (P := Try.prog) (g1 rfl).bs 28 5 9 (by kernel_rfl) (by kernel_rfl) (by kernel_rfl)
  obtain ⟨va, vc, rfl⟩ := (g1 rfl).size
  have H8 := Lib.hid h1
  clear h1 g1
  have H8p := Lib.hid H7.out.2
  have hxl : exC.toList = [99] := by first | decide | kernel_rfl | simp [exC, ByteArray.toList, ByteArray.toList.loop]
  go_wp2_with fail
  have h2 := at_left H8.out
  rw [E8.out] at h2
  unfold pS at h2
  rw [← H8p.out] at h2
  refine h2.mono ?_
  clear h2
  rintro e w9 ⟨rfl, h1, _, _⟩
  have H9 := Lib.hid h1
  clear h1
  go_wp2_with fail
  have h2 := at_commit H9.out HST.out
  unfold pS at h2
  rw [← H8p.out] at h2
  refine h2.mono ?_
  clear h2
  rintro e w10 ⟨L, hL, he, M10, e1, e2, h1, _⟩
  rw [HC.out L hL] at he
  subst he
  have H10 := Lib.hid h1
  clear h1 e1 e2 hL
  go_wp2_with fail
  go_ret
  exact ⟨rfl, H10.out.below⟩
end Go.Proofs.Ytlmngghkhnnaeaa
