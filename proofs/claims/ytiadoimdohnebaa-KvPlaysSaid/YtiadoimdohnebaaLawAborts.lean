/- The walk of KvAborts. -/
import Derived.Test.YtiadoimdohnebaaSame
import Derived.Test.YtiadoimdohnebaaGreat
import Derived.Test.YtiadoimdohnebaaGoes16
import Derived.Test.YtiadoimdohnebaaReg
import Derived.Deep.QuietTactic
import Derived.BigQuiet
namespace Go.Proofs.Ytiadoimdohnebaa
open Go.RowKit
set_option maxRecDepth 100000
set_option linter.unusedVariables false
set_option linter.unusedSimpArgs false
set_option maxHeartbeats 40000000
theorem small_of {l : List A16} (h : grB l = false) (h2 : l.length ≤ 60) {i : Nat} {x : A16} (hx : l[i]? = some x) : x.key.size ≤ 400 ∧ x.val.size ≤ 1200 := by
  unfold grB at h
  rw [Bool.or_eq_false_iff] at h
  have h1 := List.any_eq_false.1 h.1 x (by rw [List.mem_iff_getElem?]; exact ⟨i, by rw [List.getElem?_take, if_pos (by have := (List.getElem?_eq_some_iff.1 hx).1; omega)]; exact hx⟩)
  unfold big16 at h1
  simp only [Bool.or_eq_true, decide_eq_true_eq] at h1
  omega
theorem AS.at_ {w : World} {a : Option Addr} {n c : Nat} {l : List A16} (h : AS w (.slice a n c) l) {i : Nat} {x : A16} (hx : l[i]? = some x) : ∃ b off, a = some ⟨b, off, none⟩ ∧ x.Ok ∧
    w.cell? ⟨b, off + i * 4, none⟩ = some (.int .u8 x.doo) ∧ w.cell? ⟨b, off + i * 4 + 1, none⟩ = some (.string x.key) ∧ w.cell? ⟨b, off + i * 4 + 2, none⟩ = some (.string x.val) ∧ w.cell? ⟨b, off + i * 4 + 3, none⟩ = some (.int .u64 x.n) := by
  obtain ⟨a', c', he, _, hk, h3⟩ := h
  injection he with he _ _
  subst he
  rcases h3 with h3 | ⟨b, off, rfl, h3⟩
  · rw [h3] at hx; simp at hx
  · exact ⟨b, off, rfl, hk i x hx, h3 i x hx⟩
/-- two stores, of which one was changed since the last Commit -/
structure Half (w : World) (B p b1 b2 p' b1' b2' : Nat) (nowx now wasb : AL) : Prop where
  a : MemIs w p (-1) b1 b2 nowx now
  b : MemIs w p' (-1) b1' b2' now wasb
  ne : p ≠ p' ∧ b1 ≠ b1' ∧ b1 ≠ b2'
  base : B ≤ p ∧ B ≤ b1
theorem Half.below {w w' : World} {B p b1 b2 p' b1' b2' : Nat} {nowx now wasb : AL} (h : Half w B p b1 b2 p' b1' b2' nowx now wasb) (hb : Below w.heap.size w w') : Half w' B p b1 b2 p' b1' b2' nowx now wasb := ⟨h.a.below hb, h.b.below hb, h.ne, h.base⟩
theorem Half.step {w w' : World} {B p b1 b2 p' b1' b2' : Nat} {nowx nowy now wasb : AL} (h : Half w B p b1 b2 p' b1' b2' nowx now wasb) (ha : MemIs w' p (-1) b1 b2 nowy now) (hk : Keep (fun i => i = b1) w w') : Half w' B p b1 b2 p' b1' b2' nowy now wasb :=
  ⟨ha, h.b.keep hk (fun e => (h.a.apart h.b).1 e.symm) (fun e => h.ne.2.1 e.symm) (fun e => h.ne.2.2 e.symm), h.ne, h.base⟩
theorem PR.at_ {w : World} {a : Option Addr} {n c : Nat} {l : AL} (h : PR w (.slice a n c) l) {i : Nat} {p : ByteArray × ByteArray} (hp : l[i]? = some p) :
    ∃ g kv vv, a = some ⟨g, 0, none⟩ ∧ w.cell? ⟨g, i * 2, none⟩ = some kv ∧ w.cell? ⟨g, i * 2 + 1, none⟩ = some vv ∧ BS w kv p.1 ∧ BS w vv p.2 := by
  obtain ⟨a', c', he, _, _, h3⟩ := h
  injection he with he _ _
  subst he
  rcases h3 with h3 | ⟨g, rfl, h3⟩
  · rw [h3] at hp; simp at hp
  · obtain ⟨kv, vv, d1, d2, e1, e2⟩ := h3 i p hp
    rw [Nat.mul_comm] at d1 d2
    exact ⟨g, kv, vv, rfl, d1, d2, e1, e2⟩
theorem putA_len (room : Int) (l : AL) (k v : ByteArray) : (putA room l k v).length ≤ l.length + 1 := by
  unfold putA
  split
  · exact put_length _ _ _
  · omega
theorem aborts_any (lv mv : Value) (l m : List A16) (w : World) (hL : AS w lv l) (hM : AS w mv m) :
    Calls Try.prog 13 #[lv, mv] w fun e w' => e = .returned (.bool true) ∧ Below w.heap.size w w' := by
  obtain ⟨la, lc, rfl⟩ : ∃ a c, lv = .slice a l.length c := by obtain ⟨a, c, h, _⟩ := hL; exact ⟨a, c, h⟩
  obtain ⟨ma, mc, rfl⟩ : ∃ a c, mv = .slice a m.length c := by obtain ⟨a, c, h, _⟩ := hM; exact ⟨a, c, h⟩
  have GL := Lib.hid (great_any _ l w hL)
  have GM := Lib.hid (great_any _ m w hM)
  have HL := Lib.hid hL
  have HM := Lib.hid hM
  clear hL hM
  cases hg1 : grB l with
  | true =>
    have G1 := Lib.hid hg1
    clear hg1
    go_enter Try.func13, Try.ntmps13
    go_wp2_with fail
    refine GL.out.mono ?_
    rintro e w' ⟨rfl, rfl⟩
    rw [G1.out]
    go_wp2
    go_ret
    exact ⟨rfl, Below.refl _ _⟩
  | false =>
    have G1 := Lib.hid hg1
    clear hg1
    cases hg2 : grB m with
    | true =>
      have G2 := Lib.hid hg2
      clear hg2
      go_enter Try.func13, Try.ntmps13
      go_wp2_with fail
      refine GL.out.mono ?_
      rintro e w' ⟨rfl, rfl⟩
      rw [G1.out]
      go_wp2_with fail
      refine GM.out.mono ?_
      rintro e w' ⟨rfl, rfl⟩
      rw [G2.out]
      go_wp2
      go_ret
      exact ⟨rfl, Below.refl _ _⟩
    | false =>
      have G2 := Lib.hid hg2
      clear hg2
      by_cases hl60 : 60 < l.length
      · have i1 : decide ((60 : Int) < l.length) = true := decide_eq_true (by omega)
        go_enter Try.func13, Try.ntmps13
        go_wp2_with fail
        refine GL.out.mono ?_
        rintro e w' ⟨rfl, rfl⟩
        rw [G1.out]
        go_wp2_with fail
        refine GM.out.mono ?_
        rintro e w' ⟨rfl, rfl⟩
        rw [G2.out]
        go_wp2
        go_ret
        exact ⟨rfl, Below.refl _ _⟩
      · have i1 : decide ((60 : Int) < l.length) = false := decide_eq_false (by omega)
        by_cases hm60 : 60 < m.length
        · have i2 : decide ((60 : Int) < m.length) = true := decide_eq_true (by omega)
          go_enter Try.func13, Try.ntmps13
          go_wp2_with fail
          refine GL.out.mono ?_
          rintro e w' ⟨rfl, rfl⟩
          rw [G1.out]
          go_wp2_with fail
          refine GM.out.mono ?_
          rintro e w' ⟨rfl, rfl⟩
          rw [G2.out]
          go_wp2
          go_ret
          exact ⟨rfl, Below.refl _ _⟩
        · have i2 : decide ((60 : Int) < m.length) = false := decide_eq_false (by omega)
          have HG := Lib.hid goes16
          go_enter Try.func13, Try.ntmps13
          go_wp2_with fail
          refine GL.out.mono ?_
          rintro e w' ⟨rfl, rfl⟩
          rw [G1.out]
          go_wp2_with fail
          refine GM.out.mono ?_
          rintro e w' ⟨rfl, rfl⟩
          rw [G2.out]
          go_wp2_with fail
          refine (new_any (-1) _).mono ?_
          rintro e w1 ⟨p, b1, b2, rfl, hp, hb1, hb2, hm, hb⟩
          have HA1 := Lib.hid hm
          have HB1 := Lib.hid hb
          have HP := Lib.hid (And.intro hp (And.intro hb1 hb2))
          clear hm hb hp hb1 hb2 i1 i2 GL GM
          unfold pV
          go_wp2_with fail
          refine (new_any (-1) _).mono ?_
          rintro e w2 ⟨p', b1', b2', rfl, hp', hb1', hb2', hm, hb⟩
          have HT0 := Lib.hid (show Two w2 w.heap.size p b1 b2 p' b1' b2' [] [] from ⟨HA1.out.below hb, hm, ⟨by have := blk_lt HA1.out.blk; omega, by have := HA1.out.now.lt; omega, by have := HA1.out.now.lt; omega, by have := HA1.out.was.lt; omega, by have := HA1.out.was.lt; omega⟩,
            ⟨HP.out.1, HP.out.2.1, HP.out.2.2, by have := HB1.out.size; omega, by have := HB1.out.size; omega, by have := HB1.out.size; omega⟩⟩)
          have HB2 := Lib.hid (HB1.out.trans (hb.mono HB1.out.size))
          clear hm hb hp' hb1' hb2' HA1 HP
          unfold pV
          go_wp2_with fail
          go_loopw [7] (fun i wr => ∃ j : Nat, j ≤ l.length ∧ i = .int .i64 j ∧ Hid (∃ b1 b2 b1' b2' now was, Two wr w.heap.size p b1 b2 p' b1' b2' now was ∧ St j now ∧ St j was) ∧ Hid (Below w.heap.size w wr)) (fun i _ => l.length - (intOf i).toNat)
          case atStart => exact ⟨0, by omega, rfl, Lib.hid ⟨_, _, _, _, _, _, HT0.out, St.nil, St.nil⟩, HB2⟩
          case round =>
            obtain ⟨j, hj, rfl, HT, HB⟩ := hrel
            by_cases hlt : j < l.length
            · obtain ⟨x, hx⟩ : ∃ x, l[j]? = some x := ⟨_, List.getElem?_eq_getElem hlt⟩
              obtain ⟨lb, lo, hla, hok, c0, c1, c2, c3⟩ := (HL.out.below HB.out).at_ hx
              subst hla
              have hsm := small_of G1.out (by omega) hx
              obtain ⟨c1', c2', c3', c4', now, was, hT, hN, hW⟩ := HT.out
              have hs := same_any w.heap.size p c1' c2' p' c3' c4' now was j x wr hT hok hN hW (by omega) hsm.1 hsm.2
              simp only [sV, pV, a16] at hs
              have HS := Lib.hid hs
              have i3 : decide ((j : Int) < (l.length : Int)) = true := decide_eq_true (by omega)
              obtain ⟨d, k, v, n⟩ := x
              simp only at c0 c1 c2 c3
              clear hs hT hN hW hx hsm hok HT
              go_wp2_with fail
              refine HS.out.mono ?_
              rintro e w3 ⟨rfl, d1, d2, d3, d4, now', was', hT, hN, hW, hb⟩
              have HT3 := Lib.hid (show ∃ b1 b2 b1' b2' now was, Two w3 w.heap.size p b1 b2 p' b1' b2' now was ∧ St (j + 1) now ∧ St (j + 1) was from ⟨_, _, _, _, _, _, hT, hN, hW⟩)
              have HB3 := Lib.hid (HB.out.trans hb)
              clear hT hN hW hb HS
              go_wp2
              go_roundw
              case rel => exact ⟨j + 1, by omega, by go_num, HT3, HB3⟩
              case measure => simp [intOf]; omega
            · have hje : j = l.length := by omega
              subst hje
              obtain ⟨wa, rfl⟩ : ∃ wa : World, wa = wr := ⟨_, rfl⟩
              obtain ⟨b1, b2, b1', b2', now, was, hT, hN, hW⟩ := HT.out
              have HT2 := Lib.hid hT
              have HN := Lib.hid hN
              clear hT hN hW HT
              go_wp2_with fail
              refine (commit_any p (-1) b1 b2 now was wa HT2.out.a).mono ?_
              rintro e w3 ⟨rfl, b3, hb3, hm1, hk1⟩
              have HH := Lib.hid (show Half w3 w.heap.size p b1 b3 p' b1' b2' now now was from ⟨hm1, HT2.out.keepBp hk1, ⟨HT2.out.ne.1, HT2.out.ne.2.1, HT2.out.ne.2.2.1⟩, ⟨HT2.out.base.1, HT2.out.base.2.1⟩⟩)
              have HB3 := Lib.hid (HB.out.trans (hk1.below HB.out.size (fun i hi => by subst hi; exact HT2.out.base.1)))
              clear hb3 hm1 hk1 HT2
              go_wp2_with fail
              go_loopw [8] (fun i wr => ∃ j : Nat, j ≤ m.length ∧ i = .int .i64 j ∧ Hid (∃ nowx, Half wr w.heap.size p b1 b3 p' b1' b2' nowx now was ∧ nowx.length ≤ 60 + j) ∧ Hid (Below w.heap.size w wr)) (fun i _ => m.length - (intOf i).toNat)
              case atStart => exact ⟨0, by omega, rfl, Lib.hid ⟨now, HH.out, by have := HN.out.len; omega⟩, HB3⟩
              case round =>
                obtain ⟨j, hj, rfl, HH2, HB4⟩ := hrel
                clear HH
                by_cases hlt : j < m.length
                · obtain ⟨x, hx⟩ : ∃ x, m[j]? = some x := ⟨_, List.getElem?_eq_getElem hlt⟩
                  obtain ⟨mb, mo, hma, hok, c0, c1, c2, c3⟩ := (HM.out.below HB4.out).at_ hx
                  subst hma
                  have hsm := small_of G2.out (by omega) hx
                  obtain ⟨nowx, hH, hn⟩ := HH2.out
                  have H4 := Lib.hid hH
                  have hl : nowx.length ≤ 9223372036854775807 := by omega
                  have hn' := hn
                  have i3 : decide ((j : Int) < (m.length : Int)) = true := decide_eq_true (by omega)
                  have i4 : (j : Int) < (m.length : Int) := by omega
                  obtain ⟨d, k, v, n⟩ := x
                  have hd := hok.d
                  simp only at c0 c1 c2 c3 hd hsm
                  have hkm : k.size ≤ 9223372036854775807 := by omega
                  have hvm : v.size ≤ 9223372036854775807 := by omega
                  have hne : ¬ (mb = b1) := fun e => by have h' := c0; rw [e, hH.a.now.nocell] at h'; cases h'
                  have NE := Lib.hid hne
                  obtain ⟨bk, bwk, kk, g2, g3⟩ : ∃ (bv : World → Value) (bw : World → World), (∀ W, (convert 9 23 (.string k)).run Try.prog W = .ok (bv W) (bw W)) ∧ (∀ W, BS (bw W) (bv W) k) ∧ ∀ W, Below W.heap.size W (bw W) :=
                    ⟨_, _, fun W => Lib.run_convert_string_bytes (P := Try.prog) W 9 23 5 k uStr uBytes uByte, fun W => BS.bytes W 5 k hkm, fun W => bytes_below W 5 k⟩
                  have K2 := Lib.hid g2
                  have K3 := Lib.hid g3
                  clear hok hx c3 hsm hkm hH hne g2 g3 HH2
                  by_cases h0 : d % 9 = 0
                  · have kv : ∃ (bv : World → Value) (bw : World → World), (∀ W, (convert 9 23 (.string v)).run Try.prog W = .ok (bv W) (bw W)) ∧ (∀ W, BS (bw W) (bv W) v) ∧ ∀ W, Below W.heap.size W (bw W) :=
                      ⟨_, _, fun W => Lib.run_convert_string_bytes (P := Try.prog) W 9 23 5 v uStr uBytes uByte, fun W => BS.bytes W 5 v hvm, fun W => bytes_below W 5 v⟩
                    obtain ⟨bv, bwv, kv, g2, g3⟩ := kv
                    have V2 := Lib.hid g2
                    have V3 := Lib.hid g3
                    have hb1 := below_and (K3.out wr.drew) (g3 (bwk wr.drew))
                    have hb2 := below_and (g3 wr.drew) (K3.out (bwv wr.drew))
                    have F1 := Lib.hid hb1
                    have F2 := Lib.hid hb2
                    have pa := fun (W : World) (x y : Value) (hb : Below wr.drew.heap.size wr.drew W) (h1 : BS W x k) (h2 : BS W y v) => put_any p (-1) b1 b3 nowx now x y k v W ((H4.out.below ((Below.refl _ _).drew)).below hb).a h1 h2 hl
                    simp only [pV] at pa
                    have PA := Lib.hid pa
                    have s0 : wr.drew.cell? ⟨mb, mo + j * 4 + 1, none⟩ = some (.string k) ∧ wr.drew.cell? ⟨mb, mo + j * 4 + 2, none⟩ = some (.string v) := ⟨c1, c2⟩
                    have S0 := Lib.hid s0
                    have SS := Lib.hid fun (W : World) (hb : Below wr.drew.heap.size wr.drew W) => (show W.cell? ⟨mb, mo + j * 4 + 1, none⟩ = some (.string k) ∧ W.cell? ⟨mb, mo + j * 4 + 2, none⟩ = some (.string v) from ⟨(Keep.ofBelow hb (fun _ => False)).cell s0.1 (fun h => h), (Keep.ofBelow hb (fun _ => False)).cell s0.2 (fun h => h)⟩)
                    clear hvm g2 g3 hb1 hb2 pa s0
                    go_wp2_with fail
                    refine wp_region_held_drew (S := (fun w' => w'.cell? ⟨mb, mo + j * 4 + 1, none⟩ = some (.string k) ∧ w'.cell? ⟨mb, mo + j * 4 + 2, none⟩ = some (.string v))) (by kernel_rfl) ?_ (fun hHeld0 => ?_)
                    · (try dsimp only)
                      first | exact S0.out | exact SS.out _ (K3.out wr.drew) | exact SS.out _ (V3.out wr.drew) | exact SS.out _ F1.out | exact SS.out _ F2.out | exact SZ
                    refine takeN (v := ?_) 0 rfl (by kernel_rfl) (by kernel_rfl) (by kernel_rfl) (fun _ _ _ h => h) (by rfl) ?_ hHeld0 ?_
                    rotate_left
                    · intro w hSw; (try dsimp only at hSw); go_simp; with_reducible rfl
                    try simp only [Act.put, List.setIfInBounds_toArray, List.set_cons_zero, List.set_cons_succ]
                    refine takeN (v := ?_) 1 rfl (by kernel_rfl) (by kernel_rfl) (by kernel_rfl) (fun _ _ _ h => h) (by rfl) ?_ hHeld0 ?_
                    rotate_left
                    · intro w hSw; (try dsimp only at hSw); go_simp; with_reducible rfl
                    try simp only [Act.put, List.setIfInBounds_toArray, List.set_cons_zero, List.set_cons_succ]
                    refine takeN (v := ?_) 2 rfl (by kernel_rfl) (by kernel_rfl) (by kernel_rfl) (fun _ _ _ h => h) (by rfl) ?_ hHeld0 ?_
                    rotate_left
                    · intro w hSw; (try dsimp only at hSw); go_simp; with_reducible rfl
                    try simp only [Act.put, List.setIfInBounds_toArray, List.set_cons_zero, List.set_cons_succ]
                    refine takeN (v := ?_) 3 rfl (by kernel_rfl) (by kernel_rfl) (by kernel_rfl) (fun _ _ _ h => h) (by rfl) ?_ hHeld0 ?_
                    rotate_left
                    · intro w hSw; (try dsimp only at hSw); go_simp; with_reducible rfl
                    try simp only [Act.put, List.setIfInBounds_toArray, List.set_cons_zero, List.set_cons_succ]
                    refine takeN (v := ?_) 4 rfl (by kernel_rfl) (by kernel_rfl) (by kernel_rfl) (fun _ _ _ h => h) (by rfl) ?_ hHeld0 ?_
                    rotate_left
                    · intro w hSw; (try dsimp only at hSw); go_simp; with_reducible rfl
                    try simp only [Act.put, List.setIfInBounds_toArray, List.set_cons_zero, List.set_cons_succ]
                    refine takeN (v := ?_) 5 rfl (by kernel_rfl) (by kernel_rfl) (by kernel_rfl) (fun _ _ _ h => h) (by rfl) ?_ hHeld0 ?_
                    rotate_left
                    · intro w hSw; (try dsimp only at hSw); go_simp; with_reducible rfl
                    try simp only [Act.put, List.setIfInBounds_toArray, List.set_cons_zero, List.set_cons_succ]
                    refine takeN (v := ?_) 7 rfl (by kernel_rfl) (by kernel_rfl) (by kernel_rfl) (fun _ _ _ h => h) (by rfl) ?_ hHeld0 ?_
                    rotate_left
                    · intro w hSw; (try dsimp only at hSw); go_simp; with_reducible rfl
                    try simp only [Act.put, List.setIfInBounds_toArray, List.set_cons_zero, List.set_cons_succ]
                    refine takeN (v := ?_) 8 rfl (by kernel_rfl) (by kernel_rfl) (by kernel_rfl) (fun _ _ _ h => h) (by rfl) ?_ hHeld0 ?_
                    rotate_left
                    · intro w hSw; (try dsimp only at hSw); go_simp; with_reducible rfl
                    try simp only [Act.put, List.setIfInBounds_toArray, List.set_cons_zero, List.set_cons_succ]
                    refine takeN (v := ?_) 9 rfl (by kernel_rfl) (by kernel_rfl) (by kernel_rfl) (fun _ _ _ h => h) (by rfl) ?_ hHeld0 ?_
                    rotate_left
                    · intro w hSw; (try dsimp only at hSw); go_simp; with_reducible rfl
                    try simp only [Act.put, List.setIfInBounds_toArray, List.set_cons_zero, List.set_cons_succ]
                    refine takeN (v := ?_) 10 rfl (by kernel_rfl) (by kernel_rfl) (by kernel_rfl) (fun _ _ _ h => h) (by rfl) ?_ hHeld0 ?_
                    rotate_left
                    · intro w hSw; (try dsimp only at hSw); go_simp; with_reducible rfl
                    try simp only [Act.put, List.setIfInBounds_toArray, List.set_cons_zero, List.set_cons_succ]
                    refine takeN (v := ?_) 11 rfl (by kernel_rfl) (by kernel_rfl) (by kernel_rfl) (fun _ _ _ h => h) (by rfl) ?_ hHeld0 ?_
                    rotate_left
                    · intro w hSw; (try dsimp only at hSw); go_simp; with_reducible rfl
                    try simp only [Act.put, List.setIfInBounds_toArray, List.set_cons_zero, List.set_cons_succ]
                    refine wpAnyH_ready (rs := [6, 12]) (by kernel_rfl) (by simp) ?_
                    refine readyN rfl (fun K hK => ?_) ?_
                    · -- operation 6
                      go_simp
                      refine hK.out _ _ ?_ (fun hHeld1 => ?_)
                      · (try dsimp only)
                        first | exact S0.out | exact SS.out _ (K3.out wr.drew) | exact SS.out _ (V3.out wr.drew) | exact SS.out _ F1.out | exact SS.out _ F2.out | exact SZ
                      clear hK K hHeld0
                      try simp only [Act.put, List.setIfInBounds_toArray, List.set_cons_zero, List.set_cons_succ]
                      refine wpAnyH_ready (rs := [12]) (by kernel_rfl) (by simp) ?_
                      refine readyN rfl (fun K hK => ?_) ?_
                      · -- operation 12
                        go_simp
                        refine hK.out _ _ ?_ (fun hHeld2 => ?_)
                        · (try dsimp only)
                          first | exact S0.out | exact SS.out _ (K3.out wr.drew) | exact SS.out _ (V3.out wr.drew) | exact SS.out _ F1.out | exact SS.out _ F2.out | exact SZ
                        clear hK K hHeld1
                        try simp only [Act.put, List.setIfInBounds_toArray, List.set_cons_zero, List.set_cons_succ]
                        refine wpAnyH_ready (rs := [13]) (by kernel_rfl) (by simp) ?_
                        refine readyN rfl (fun K hK => ?_) ?_
                        · -- operation 13
                          go_simp
                          (go_at_call 22
                           first
                             | ((with_reducible refine (PA.out _ (bk wr.drew) (bv (bwk wr.drew)) F1.out ((K2.out _).below (V3.out _)) (V2.out _)).mono ?_); rintro e w5 ⟨rfl, hm5, hk5⟩
                                have SZ := And.intro (hk5.cell (SS.out _ F1.out).1 NE.out) (hk5.cell (SS.out _ F1.out).2 NE.out)
                                have H5 := Lib.hid (((H4.out.below ((Below.refl _ _).drew)).below F1.out).step hm5 hk5)
                                have HB5 := Lib.hid (((HB4.out.drew).trans (F1.out.mono HB4.out.size)).trans (hk5.below (B := w.heap.size) (Nat.le_trans HB4.out.size F1.out.size) (fun i hi => by subst hi; exact H4.out.base.2))))
                             | ((with_reducible refine (PA.out _ (bk (bwv wr.drew)) (bv wr.drew) F2.out (K2.out _) ((V2.out _).below (K3.out _))).mono ?_); rintro e w5 ⟨rfl, hm5, hk5⟩
                                have SZ := And.intro (hk5.cell (SS.out _ F2.out).1 NE.out) (hk5.cell (SS.out _ F2.out).2 NE.out)
                                have H5 := Lib.hid (((H4.out.below ((Below.refl _ _).drew)).below F2.out).step hm5 hk5)
                                have HB5 := Lib.hid (((HB4.out.drew).trans (F2.out.mono HB4.out.size)).trans (hk5.below (B := w.heap.size) (Nat.le_trans HB4.out.size F2.out.size) (fun i hi => by subst hi; exact H4.out.base.2))))
                           clear hm5 hk5)
                          go_wp2_with fail
                          refine hK.out _ _ ?_ (fun hHeld3 => ?_)
                          · (try dsimp only)
                            first | exact S0.out | exact SS.out _ (K3.out wr.drew) | exact SS.out _ (V3.out wr.drew) | exact SS.out _ F1.out | exact SS.out _ F2.out | exact SZ
                          clear hK K hHeld2
                          try simp only [Act.put, List.setIfInBounds_toArray, List.set_cons_zero, List.set_cons_succ]
                          refine wpAnyH_done (by kernel_rfl) ?_ _
                          go_wp2
                          go_roundw
                          case rel => exact ⟨j + 1, by omega, by go_num, Lib.hid ⟨_, H5.out, by have := putA_len (-1) nowx k v; omega⟩, HB5⟩
                          case measure => simp [intOf]; omega
                        exact AllReadyH.nil
                      exact AllReadyH.nil
                    refine readyN rfl (fun K hK => ?_) ?_
                    · -- operation 12
                      go_simp
                      refine hK.out _ _ ?_ (fun hHeld1 => ?_)
                      · (try dsimp only)
                        first | exact S0.out | exact SS.out _ (K3.out wr.drew) | exact SS.out _ (V3.out wr.drew) | exact SS.out _ F1.out | exact SS.out _ F2.out | exact SZ
                      clear hK K hHeld0
                      try simp only [Act.put, List.setIfInBounds_toArray, List.set_cons_zero, List.set_cons_succ]
                      refine wpAnyH_ready (rs := [6]) (by kernel_rfl) (by simp) ?_
                      refine readyN rfl (fun K hK => ?_) ?_
                      · -- operation 6
                        go_simp
                        refine hK.out _ _ ?_ (fun hHeld2 => ?_)
                        · (try dsimp only)
                          first | exact S0.out | exact SS.out _ (K3.out wr.drew) | exact SS.out _ (V3.out wr.drew) | exact SS.out _ F1.out | exact SS.out _ F2.out | exact SZ
                        clear hK K hHeld1
                        try simp only [Act.put, List.setIfInBounds_toArray, List.set_cons_zero, List.set_cons_succ]
                        refine wpAnyH_ready (rs := [13]) (by kernel_rfl) (by simp) ?_
                        refine readyN rfl (fun K hK => ?_) ?_
                        · -- operation 13
                          go_simp
                          (go_at_call 22
                           first
                             | ((with_reducible refine (PA.out _ (bk wr.drew) (bv (bwk wr.drew)) F1.out ((K2.out _).below (V3.out _)) (V2.out _)).mono ?_); rintro e w5 ⟨rfl, hm5, hk5⟩
                                have SZ := And.intro (hk5.cell (SS.out _ F1.out).1 NE.out) (hk5.cell (SS.out _ F1.out).2 NE.out)
                                have H5 := Lib.hid (((H4.out.below ((Below.refl _ _).drew)).below F1.out).step hm5 hk5)
                                have HB5 := Lib.hid (((HB4.out.drew).trans (F1.out.mono HB4.out.size)).trans (hk5.below (B := w.heap.size) (Nat.le_trans HB4.out.size F1.out.size) (fun i hi => by subst hi; exact H4.out.base.2))))
                             | ((with_reducible refine (PA.out _ (bk (bwv wr.drew)) (bv wr.drew) F2.out (K2.out _) ((V2.out _).below (K3.out _))).mono ?_); rintro e w5 ⟨rfl, hm5, hk5⟩
                                have SZ := And.intro (hk5.cell (SS.out _ F2.out).1 NE.out) (hk5.cell (SS.out _ F2.out).2 NE.out)
                                have H5 := Lib.hid (((H4.out.below ((Below.refl _ _).drew)).below F2.out).step hm5 hk5)
                                have HB5 := Lib.hid (((HB4.out.drew).trans (F2.out.mono HB4.out.size)).trans (hk5.below (B := w.heap.size) (Nat.le_trans HB4.out.size F2.out.size) (fun i hi => by subst hi; exact H4.out.base.2))))
                           clear hm5 hk5)
                          go_wp2_with fail
                          refine hK.out _ _ ?_ (fun hHeld3 => ?_)
                          · (try dsimp only)
                            first | exact S0.out | exact SS.out _ (K3.out wr.drew) | exact SS.out _ (V3.out wr.drew) | exact SS.out _ F1.out | exact SS.out _ F2.out | exact SZ
                          clear hK K hHeld2
                          try simp only [Act.put, List.setIfInBounds_toArray, List.set_cons_zero, List.set_cons_succ]
                          refine wpAnyH_done (by kernel_rfl) ?_ _
                          go_wp2
                          go_roundw
                          case rel => exact ⟨j + 1, by omega, by go_num, Lib.hid ⟨_, H5.out, by have := putA_len (-1) nowx k v; omega⟩, HB5⟩
                          case measure => simp [intOf]; omega
                        exact AllReadyH.nil
                      exact AllReadyH.nil
                    exact AllReadyH.nil
                  · have h0' : (d % 9 == 0) = false := beq_eq_false_iff_ne.2 h0
                    have HD := Lib.hid (delete_any p (-1) b1 b3 nowx now (bk wr) k (bwk wr) (H4.out.below (K3.out wr)).a (K2.out wr))
                    unfold pV at HD
                    clear h0
                    go_wp2_with fail
                    refine HD.out.mono ?_
                    rintro e w5 ⟨rfl, hm5, hk5⟩
                    have H5 := Lib.hid ((H4.out.below (K3.out wr)).step hm5 hk5)
                    have HB5 := Lib.hid ((HB4.out.trans ((K3.out wr).mono HB4.out.size)).trans (hk5.below (B := w.heap.size) (Nat.le_trans HB4.out.size (K3.out wr).size) (fun i hi => by subst hi; exact H4.out.base.2)))
                    clear hm5 hk5
                    go_wp2
                    go_roundw
                    case rel => exact ⟨j + 1, by omega, by go_num, Lib.hid ⟨_, H5.out, by have := (del_sublist k nowx).length_le; omega⟩, HB5⟩
                    case measure => simp [intOf]; omega
                · have hje : j = m.length := by omega
                  subst hje
                  obtain ⟨nowx, hH, hn⟩ := HH2.out
                  have H4 := Lib.hid hH
                  clear hH HH2
                  obtain ⟨wb, rfl⟩ : ∃ wb : World, wb = wr := ⟨_, rfl⟩
                  go_wp2_with fail
                  refine (abort_any p (-1) b1 b3 nowx now wb H4.out.a).mono ?_
                  rintro e w5 ⟨rfl, b4, hb4, hm5, hk5⟩
                  have HA5 := Lib.hid hm5
                  have HC5 := Lib.hid (H4.out.b.keep hk5 (fun e => H4.out.ne.1 e.symm) (fun e => (H4.out.b.apart H4.out.a).1 e) (fun e => (H4.out.b.apart H4.out.a).2 e))
                  have HB5 := Lib.hid (HB4.out.trans (hk5.below HB4.out.size (fun i hi => by subst hi; exact H4.out.base.1)))
                  clear hm5 hk5 hb4
                  go_wp2_with fail
                  refine (range_any p (-1) b4 b3 now now (.slice none 0 0) (.slice none 0 0) ByteArray.empty ByteArray.empty w5 HA5.out (BS.nil _) (BS.nil _) (HN.out.sml (by omega)) HN.out.nd).mono ?_
                  rintro e w6 ⟨xv, rfl, hps, hb⟩
                  have HX6 := Lib.hid hps.pr
                  have HC6 := Lib.hid (HC5.out.below hb)
                  have HB6 := Lib.hid (HB5.out.trans (hb.mono HB5.out.size))
                  clear hps hb
                  go_wp2_with fail
                  refine (range_any p' (-1) b1' b2' now was (.slice none 0 0) (.slice none 0 0) ByteArray.empty ByteArray.empty w6 HC6.out (BS.nil _) (BS.nil _) (HN.out.sml (by omega)) HN.out.nd).mono ?_
                  rintro e w7 ⟨yv, rfl, hps, hb⟩
                  have HX7 := Lib.hid (HX6.out.below hb)
                  have HY7 := Lib.hid hps.pr
                  have HB7 := Lib.hid (HB6.out.trans (hb.mono HB6.out.size))
                  have hal : (AL.range ByteArray.empty ByteArray.empty now).length ≤ 1000000 := Nat.le_trans (range_len _ _ _) (by have := HN.out.len; omega)
                  clear hps hb
                  obtain ⟨al, hale⟩ : ∃ al, al = AL.range ByteArray.empty ByteArray.empty now := ⟨_, rfl⟩
                  rw [← hale] at HX7 HY7 hal
                  obtain ⟨xa, xc, rfl, hxx⟩ := HX7.out
                  obtain ⟨ya, yc, rfl, hyy⟩ := HY7.out
                  clear hale hxx hyy HN HC6 HC5 HA5 HX6 H4
                  have hn1 : (((al.length : Nat) : Int) != (al.length : Int)) = false := by simp
                  go_wp2_with fail
                  go_loopw [13] (fun i wr => ∃ j : Nat, j ≤ al.length ∧ i = .int .i64 j ∧ Hid (PR wr (.slice xa al.length xc) al) ∧ Hid (PR wr (.slice ya al.length yc) al) ∧ Hid (Below w.heap.size w wr)) (fun i _ => al.length - (intOf i).toNat)
                  case atStart => exact ⟨0, by omega, rfl, HX7, HY7, HB7⟩
                  case round =>
                    obtain ⟨j, hj, rfl, HX8, HY8, HB8⟩ := hrel
                    by_cases hlt : j < al.length
                    · obtain ⟨q, hq⟩ : ∃ q, al[j]? = some q := ⟨_, List.getElem?_eq_getElem hlt⟩
                      obtain ⟨g, kv, vv, rfl, c1, c2, e1, e2⟩ := HX8.out.at_ hq
                      obtain ⟨g', kv', vv', rfl, c1', c2', e1', e2'⟩ := HY8.out.at_ hq
                      have i5 : decide ((j : Int) < (al.length : Int)) = true := decide_eq_true (by omega)
                      have i6 : (j : Int) < (al.length : Int) := by omega
                      have t1 := fun n : Nat => (e1.drewN n).string (P := Try.prog) 23 5 9 uBytes uByte uStr
                      have t2 := fun n : Nat => (e2.drewN n).string (P := Try.prog) 23 5 9 uBytes uByte uStr
                      have t3 := fun n : Nat => (e1'.drewN n).string (P := Try.prog) 23 5 9 uBytes uByte uStr
                      have t4 := fun n : Nat => (e2'.drewN n).string (P := Try.prog) 23 5 9 uBytes uByte uStr
                      have q1 : (q.1.toList != q.1.toList) = false := by simp
                      have q2 : (q.2.toList != q.2.toList) = false := by simp
                      clear e1 e2 e1' e2' hq
                      go_wp2_with fail
                      go_quiet (fail)
                      go_wp2_with fail
                      go_roundw
                      case rel => exact ⟨j + 1, by omega, by go_num, Lib.hid (HX8.out.below (below_drewN_of _ _)), Lib.hid (HY8.out.below (below_drewN_of _ _)), Lib.hid (below_drewN HB8.out _)⟩
                      case measure => simp [intOf]; omega
                    · have i5 : decide ((j : Int) < (al.length : Int)) = false := decide_eq_false (by omega)
                      go_wp2_with fail
                      refine (HG.out _).mono ?_
                      rintro e wf ⟨rfl, hb⟩
                      have HBF := Lib.hid (HB8.out.trans (hb.mono HB8.out.size))
                      clear hb
                      go_wp2
                      go_ret
                      exact ⟨rfl, HBF.out⟩
end Go.Proofs.Ytiadoimdohnebaa
