/- Acts of quitrentlaw18 that came in; the walks of its great and goes. -/
import Derived.Test.YtiadoimdohnebaaIdem3
import Derived.Test.YtiadoimdohnebaaRow
import Derived.Test.YtiadoimdohnebaaActs
import Derived.DataShut
import Derived.LoopTactic
namespace Go.Proofs.Ytiadoimdohnebaa
open Go.RowKit
set_option linter.unusedVariables false
set_option linter.unusedSimpArgs false
set_option maxRecDepth 100000
structure A18 where
  doo : Int
  ten : Int
  text : ByteArray
  body : ByteArray
  reply : ByteArray
  seq : Int
structure A18.Ok (a : A18) : Prop where
  d : 0 ≤ a.doo ∧ a.doo ≤ 255
  t : 0 ≤ a.ten ∧ a.ten ≤ 4294967295
  x : a.text.size ≤ maxLen
  b : a.body.size ≤ maxLen
  r : a.reply.size ≤ maxLen
  s : 0 ≤ a.seq ∧ a.seq ≤ 18446744073709551615
def A18.cells (a : A18) : List Value := [.int .u8 a.doo, .int .u32 a.ten, .string a.text, .string a.body, .string a.reply, .int .u64 a.seq]
def A18.toRec (a : A18) : Rec := ⟨a.body, a.reply, a.seq⟩
/-- v is a slice of acts that reads as l -/
def AT (w : World) (b o : Nat) (x : A18) : Prop :=
  w.cell? ⟨b, o, none⟩ = some (.int .u8 x.doo) ∧ w.cell? ⟨b, o + 1, none⟩ = some (.int .u32 x.ten) ∧ w.cell? ⟨b, o + 2, none⟩ = some (.string x.text) ∧ w.cell? ⟨b, o + 3, none⟩ = some (.string x.body) ∧ w.cell? ⟨b, o + 4, none⟩ = some (.string x.reply) ∧ w.cell? ⟨b, o + 5, none⟩ = some (.int .u64 x.seq)
theorem AT.keep {F : Nat → Prop} {w w' : World} {b o : Nat} {x : A18} (h : AT w b o x) (hk : Keep F w w') (hF : ¬ F b) : AT w' b o x :=
  ⟨hk.cell h.1 hF, hk.cell h.2.1 hF, hk.cell h.2.2.1 hF, hk.cell h.2.2.2.1 hF, hk.cell h.2.2.2.2.1 hF, hk.cell h.2.2.2.2.2 hF⟩
def AS8 (w : World) (v : Value) (l : List A18) : Prop :=
  ∃ a c, v = .slice a l.length c ∧ l.length ≤ maxLen ∧ (∀ (i : Nat) (x : A18), l[i]? = some x → x.Ok) ∧
    (l = [] ∨ ∃ b off, a = some ⟨b, off, none⟩ ∧ ∀ (i : Nat) (x : A18), l[i]? = some x → AT w b (off + i * 6) x)
theorem AS8.below {w w' : World} {v : Value} {l : List A18} (h : AS8 w v l) (hb : Below w.heap.size w w') : AS8 w' v l := by
  obtain ⟨a, c, rfl, h1, h2, h3⟩ := h
  refine ⟨a, c, rfl, h1, h2, ?_⟩
  rcases h3 with h3 | ⟨b, off, rfl, h3⟩
  · exact .inl h3
  · exact .inr ⟨b, off, rfl, fun i x hx => (h3 i x hx).keep (Keep.ofBelow hb (fun _ => False)) (fun h => h)⟩
theorem AS8.at_ {w : World} {a : Option Addr} {n c : Nat} {l : List A18} (h : AS8 w (.slice a n c) l) {i : Nat} {x : A18} (hx : l[i]? = some x) : ∃ b off, a = some ⟨b, off, none⟩ ∧ x.Ok ∧ AT w b (off + i * 6) x := by
  obtain ⟨a', c', he, _, hk, h3⟩ := h
  injection he with he _ _
  subst he
  rcases h3 with h3 | ⟨b, off, rfl, h3⟩
  · rw [h3] at hx; simp at hx
  · exact ⟨b, off, rfl, hk i x hx, h3 i x hx⟩
def big18 (a : A18) : Bool := decide (100 < a.text.size) || decide (1000 < a.body.size) || decide (1000 < a.reply.size)
def gr18 (l : List A18) : Bool := (l.take 101).any big18 || decide (100 < l.length)
theorem big18_false {a : A18} (h : big18 a = false) : a.text.size ≤ 100 ∧ a.body.size ≤ 1000 ∧ a.reply.size ≤ 1000 := by
  unfold big18 at h
  simp only [Bool.or_eq_false_iff, decide_eq_false_iff_not] at h
  omega
theorem gr18_false {l : List A18} (h : gr18 l = false) : l.length ≤ 100 ∧ ∀ (i : Nat) (x : A18), l[i]? = some x → big18 x = false := by
  unfold gr18 at h
  rw [Bool.or_eq_false_iff, decide_eq_false_iff_not] at h
  refine ⟨by omega, fun i x hx => ?_⟩
  have := List.any_eq_false.1 h.1 x (by rw [List.mem_iff_getElem?]; exact ⟨i, by rw [List.getElem?_take, if_pos (by have := (List.getElem?_eq_some_iff.1 hx).1; omega)]; exact hx⟩)
  simpa using this
theorem any18 {l : List A18} {k : Nat} {x : A18} (hx : l[k]? = some x) (hk : k < 101) (hb : big18 x = true) : gr18 l = true := by
  unfold gr18
  rw [Bool.or_eq_true]; left
  rw [List.any_eq_true]
  exact ⟨x, by rw [List.mem_iff_getElem?]; exact ⟨k, by rw [List.getElem?_take, if_pos hk]; exact hx⟩, hb⟩
theorem none18 {l : List A18} {k : Nat} (h : ∀ (i : Nat) (x : A18), i < k → l[i]? = some x → big18 x = false) (hk : l.length ≤ k ∨ 101 ≤ k) : gr18 l = decide (100 < l.length) := by
  unfold gr18
  have : (l.take 101).any big18 = false := by
    rw [List.any_eq_false]
    intro x hx
    rw [List.mem_iff_getElem?] at hx
    obtain ⟨i, hi⟩ := hx
    rw [List.getElem?_take] at hi
    split at hi
    · have hl : i < l.length := (List.getElem?_eq_some_iff.1 hi).1
      rw [h i x (by omega) hi]; decide
    · cases hi
  rw [this, Bool.false_or]
theorem great18_any (v : Value) (l : List A18) (w : World) (h : AS8 w v l) :
    Calls Try.prog 29 #[v] w fun e w' => e = .returned (.bool (gr18 l)) ∧ w = w' := by
  have hh := h
  obtain ⟨a, c, rfl, h1, h2, h3⟩ := h
  unfold maxLen at h1
  have HH := Lib.hid hh
  clear h2 h3 hh
  go_enter Try.func29, Try.ntmps29
  go_wp2
  go_loop [3] (fun i => ∃ k : Nat, k ≤ l.length ∧ k ≤ 101 ∧ i = .int .i64 k ∧ Hid (∀ (i : Nat) (x : A18), i < k → l[i]? = some x → big18 x = false)) (fun i => l.length - (intOf i).toNat)
  case atStart => exact ⟨0, by omega, by omega, rfl, Lib.hid (fun i x hi _ => by omega)⟩
  case round =>
    obtain ⟨k, hk, hk2, rfl, HA⟩ := hrel
    by_cases hlt : k < l.length
    · by_cases hlt2 : k < 101
      · obtain ⟨x, hx⟩ : ∃ x, l[k]? = some x := ⟨_, List.getElem?_eq_getElem hlt⟩
        obtain ⟨b, off, rfl, hok, _, _, c2, c3, c4, _⟩ := HH.out.at_ hx
        have hx2 := hok.x
        have hx3 := hok.b
        have hx4 := hok.r
        unfold maxLen at hx2 hx3 hx4
        have i1 : decide ((k : Int) < (l.length : Int)) = true := decide_eq_true (by omega)
        have i2 : decide ((k : Int) < 101) = true := decide_eq_true (by omega)
        have i3 : (k : Int) < (l.length : Int) := by omega
        clear hok
        by_cases hb : big18 x = true
        · have HG := Lib.hid (any18 hx hlt2 hb)
          have hb' : 100 < x.text.size ∨ (x.text.size ≤ 100 ∧ 1000 < x.body.size) ∨ (x.text.size ≤ 100 ∧ x.body.size ≤ 1000 ∧ 1000 < x.reply.size) := by
            unfold big18 at hb
            simp only [Bool.or_eq_true, decide_eq_true_eq] at hb
            omega
          clear hx hb
          rcases hb' with hb' | ⟨hb1, hb'⟩ | ⟨hb1, hb2, hb'⟩
          · have j1 : (100 : Int) < x.text.size := by omega
            clear hb'
            go_wp2
            go_ret
            exact ⟨by rw [HG.out]; rfl, rfl⟩
          · have j1 : (x.text.size : Int) ≤ 100 := by omega
            have j2 : (1000 : Int) < x.body.size := by omega
            clear hb' hb1
            go_wp2
            go_ret
            exact ⟨by rw [HG.out]; rfl, rfl⟩
          · have j1 : (x.text.size : Int) ≤ 100 := by omega
            have j2 : (x.body.size : Int) ≤ 1000 := by omega
            have j3 : (1000 : Int) < x.reply.size := by omega
            clear hb' hb1 hb2
            go_wp2
            go_ret
            exact ⟨by rw [HG.out]; rfl, rfl⟩
        · have hbf : big18 x = false := by simpa using hb
          obtain ⟨g1, g2, g3⟩ := big18_false hbf
          have j1 : (x.text.size : Int) ≤ 100 := by omega
          have j2 : (x.body.size : Int) ≤ 1000 := by omega
          have j3 : (x.reply.size : Int) ≤ 1000 := by omega
          have HA' := Lib.hid (show ∀ (i : Nat) (y : A18), i < k + 1 → l[i]? = some y → big18 y = false from by
            intro i y hi hy
            by_cases he : i = k
            · subst he; rw [hx] at hy; cases hy; exact hbf
            · exact HA.out i y (by omega) hy)
          clear hx hb hbf g1 g2 g3
          go_wp2
          go_round
          case rel => exact ⟨k + 1, by omega, by omega, by go_num, HA'⟩
          case measure => simp [intOf]; omega
      · have i1 : decide ((k : Int) < (l.length : Int)) = true := decide_eq_true (by omega)
        have i2 : decide ((k : Int) < 101) = false := decide_eq_false (by omega)
        have HG := Lib.hid (none18 HA.out (.inr (by omega)))
        have i4 : decide ((100 : Int) < l.length) = true := decide_eq_true (by omega)
        have I3 := Lib.hid (show decide (100 < l.length) = true from decide_eq_true (by omega))
        go_wp2
        go_ret
        exact ⟨by rw [HG.out, I3.out]; rfl, rfl⟩
    · have i1 : decide ((k : Int) < (l.length : Int)) = false := decide_eq_false (by omega)
      have HG := Lib.hid (none18 HA.out (.inl (by omega)))
      go_wp2
      go_ret
      refine ⟨?_, rfl⟩
      rw [HG.out]
      show Ending.returned (.bool (decide ((100 : Int) < (l.length : Int)))) = .returned (.bool (decide (100 < l.length)))
      congr 2
      rw [Bool.eq_iff_iff]
      simp only [decide_eq_true_eq]
      omega
/-! ### the example -/
def F0 : IxF := fun _ _ => none
theorem idx0 : Idx [] F0 := ⟨fun t x _ _ _ => rfl, fun t x r h => by cases h⟩
def xA : ByteArray := ⟨#[97]⟩
def recXY : Rec := ⟨⟨#[120]⟩, ⟨#[121]⟩, 7⟩
theorem goes18 (w : World) :
    Calls Try.prog 38 #[] w fun e w' => e = .returned (.bool true) ∧ Below w.heap.size w w' := by
  have hkc := kc
  have E1 := Lib.hid (show keepE (-1) [] F0 1 xA recXY = 0 by decide +kernel)
  have I1 := Lib.hid (keep_idx (room := -1) (t := 1) (x := xA) (r := recXY) idx0 (by decide) (by decide) (by decide))
  have hF1 : keepF (-1) [] F0 1 xA recXY = (fun t' x' => if t' = 1 ∧ x' = xA then some recXY else F0 t' x') := by unfold keepF; rw [if_pos E1.out]
  obtain ⟨n1, hn1⟩ : ∃ n1, n1 = keepA (-1) [] F0 1 xA recXY := ⟨_, rfl⟩
  rw [← hn1] at I1
  have N1 := Lib.hid hn1
  obtain ⟨F1, hF⟩ : ∃ F1, F1 = keepF (-1) [] F0 1 xA recXY := ⟨_, rfl⟩
  have hf : F1 1 xA = some recXY := by rw [hF, hF1]; simp
  rw [← hF] at I1
  have R0 := Lib.hid (show findR F0 1 xA ⟨#[120]⟩ = (ByteArray.empty, false, 0) by decide +kernel)
  have R1 := Lib.hid (show findR F1 1 xA ⟨#[120]⟩ = (⟨#[121]⟩, true, 0) by unfold findR; rw [hf]; decide +kernel)
  have R2 := Lib.hid (show findR F1 1 xA ⟨#[122]⟩ = (ByteArray.empty, false, 41) by unfold findR; rw [hf]; decide +kernel)
  have R3 := Lib.hid (show seqR F1 1 xA = (7, 0) by unfold seqR; rw [hf]; decide +kernel)
  clear hn1 hF hF1 hf
  go_enter Try.func38, Try.ntmps38
  go_wp2_with fail
  refine (new_any (-1) _).mono ?_
  rintro e w1 ⟨p, b1, b2, rfl, hp, hb1, hb2, hm, hb⟩
  have HM1 := Lib.hid hm
  have HB1 := Lib.hid hb
  have HP := Lib.hid hb1
  clear hm hb hp hb1 hb2
  unfold pV
  go_wp2_with fail
  refine (find_any p (-1) b1 b2 [] [] F0 1 (by decide) (by decide) xA ⟨#[120]⟩ _ _ (HM1.out.alloc _) idx0 (by decide) (BS.lit rfl _ ⟨#[120]⟩ _ rfl rfl (by decide))).mono ?_
  rintro e w2 ⟨u2, rfl, _, hb⟩
  rw [R0.out]
  have HM2 := Lib.hid ((HM1.out.alloc _).below hb)
  have HB2 := Lib.hid ((HB1.out.alloc HB1.out.size _).trans (hb.mono (by have := HB1.out.size; simp; omega)))
  clear hb
  go_wp2_with fail
  refine (keep_any p (-1) b1 b2 [] [] F0 1 (by decide) (by decide) xA recXY _ _ _ ((HM2.out.alloc _).alloc _) idx0 (by decide) ((BS.lit rfl _ ⟨#[120]⟩ _ rfl rfl (by decide)).alloc _) (BS.lit (by simp) _ ⟨#[121]⟩ _ rfl rfl (by decide)) (by decide) (by decide) (by decide) (by decide)).mono ?_
  rintro e w3 ⟨rfl, hm, hk⟩
  rw [E1.out]
  rw [← N1.out] at hm
  have HM3 := Lib.hid hm
  have HB3 := Lib.hid (((HB2.out.alloc HB2.out.size _).alloc (by have := HB2.out.size; simp; omega) _).trans (hk.below (B := w.heap.size) (by have := HB2.out.size; simp; omega) (fun i hi => by subst hi; exact HP.out)))
  clear hm hk
  go_wp2_with fail
  refine (find_any p (-1) b1 b2 n1 [] F1 1 (by decide) (by decide) xA ⟨#[120]⟩ _ _ (HM3.out.alloc _) I1.out (by decide) (BS.lit rfl _ ⟨#[120]⟩ _ rfl rfl (by decide))).mono ?_
  rintro e w4 ⟨u4, rfl, hu, hb⟩
  rw [R1.out] at hu ⊢
  have HU := Lib.hid hu
  have HM4 := Lib.hid ((HM3.out.alloc _).below hb)
  have HB4 := Lib.hid ((HB3.out.alloc HB3.out.size _).trans (hb.mono (by have := HB3.out.size; simp; omega)))
  clear hb hu
  go_wp2_with fail
  refine (find_any p (-1) b1 b2 n1 [] F1 1 (by decide) (by decide) xA ⟨#[122]⟩ _ _ (HM4.out.alloc _) I1.out (by decide) (BS.lit rfl _ ⟨#[122]⟩ _ rfl rfl (by decide))).mono ?_
  rintro e w5 ⟨u5, rfl, _, hb⟩
  rw [R2.out]
  have HM5 := Lib.hid ((HM4.out.alloc _).below hb)
  have HU5 := Lib.hid ((HU.out.alloc _).below hb)
  have HB5 := Lib.hid ((HB4.out.alloc HB4.out.size _).trans (hb.mono (by have := HB4.out.size; simp; omega)))
  clear hb
  go_wp2_with fail
  refine (seq_any p (-1) b1 b2 n1 [] F1 1 (by decide) (by decide) xA _ HM5.out I1.out (by decide)).mono ?_
  rintro e w6 ⟨rfl, hb⟩
  rw [R3.out]
  have conv := (HU5.out.below hb).string (P := Try.prog) 23 5 9 uBytes uByte uStr
  have HB6 := Lib.hid (HB5.out.trans (hb.mono HB5.out.size))
  clear hb
  go_wp2
  go_ret
  exact ⟨rfl, HB6.out⟩
end Go.Proofs.Ytiadoimdohnebaa
