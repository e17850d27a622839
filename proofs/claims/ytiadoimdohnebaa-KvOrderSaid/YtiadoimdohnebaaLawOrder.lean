/- The walk of KvOrder. -/
import Derived.Test.YtiadoimdohnebaaOrd3
import Derived.Test.YtiadoimdohnebaaGoes16
import Derived.Deep.RegionHeld3
import Derived.Deep.RegionWith
import Derived.Deep.QuietTactic
import Derived.BigQuiet
import Derived.Test.YtiadoimdohnebaaReg
namespace Go.Proofs.Ytiadoimdohnebaa
open Go.RowKit
set_option maxRecDepth 100000
set_option linter.unusedVariables false
set_option linter.unusedSimpArgs false
set_option maxHeartbeats 40000000
theorem US.below {w w' : World} {v : Value} {ns : List Int} (h : US w v ns) (hb : Below w.heap.size w w') : US w' v ns := by
  obtain ⟨a, c, rfl, hr, hx⟩ := h
  refine ⟨a, c, rfl, hr, ?_⟩
  rcases hx with hx | ⟨b, o, rfl, hc⟩
  · exact .inl hx
  · exact .inr ⟨b, o, rfl, fun i hi => (Keep.ofBelow hb (fun _ => False)).cell (hc i hi) (fun h => h)⟩
theorem US.drew {w : World} {v : Value} {ns : List Int} (h : US w v ns) : US w.drew v ns := h
theorem US.lit2 (w : World) (x y : Int) (h0 : 0 ≤ x ∧ x ≤ 18446744073709551615) (h1 : 0 ≤ y ∧ y ≤ 18446744073709551615) (e : TypeId) : US (w.alloc (.cells #[.int .u64 x, .int .u64 y] e)) (.slice (some ⟨w.heap.size, 0, none⟩) 2 2) [x, y] := by
  refine ⟨_, _, rfl, fun i hi => ?_, .inr ⟨_, 0, rfl, fun i hi => ?_⟩⟩
  · have : i = 0 ∨ i = 1 := by simp at hi; omega
    rcases this with rfl | rfl
    · exact h0
    · exact h1
  · have : i = 0 ∨ i = 1 := by simp at hi; omega
    rcases this with rfl | rfl
    · rw [blk_cell (blk_new w _)]; rfl
    · rw [blk_cell (blk_new w _)]; rfl
theorem US.at_ {w : World} {a : Option Addr} {n c : Nat} {ns : List Int} (h : US w (.slice a n c) ns) {j : Nat} (hj : j < ns.length) : ∃ b off, a = some ⟨b, off, none⟩ ∧ w.cell? ⟨b, off + j, none⟩ = some (.int .u64 (ns.getD j 0)) ∧ 0 ≤ ns.getD j 0 ∧ ns.getD j 0 ≤ 18446744073709551615 := by
  obtain ⟨a', c', he, hr, hx⟩ := h
  injection he with he _ _
  subst he
  rcases hx with hx | ⟨b, o, rfl, hc⟩
  · rw [hx] at hj; simp at hj
  · exact ⟨b, o, rfl, hc j hj, hr j hj⟩
theorem order_any (lv mv : Value) (l m : List Int) (w : World) (hL : US w lv l) (hM : US w mv m) :
    Calls Try.prog 5 #[lv, mv] w fun e w' => e = .returned (.bool true) ∧ Below w.heap.size w w' := by
  obtain ⟨la, lc, rfl⟩ : ∃ a c, lv = .slice a l.length c := by obtain ⟨a, c, h, _⟩ := hL; exact ⟨a, c, h⟩
  obtain ⟨ma, mc, rfl⟩ : ∃ a c, mv = .slice a m.length c := by obtain ⟨a, c, h, _⟩ := hM; exact ⟨a, c, h⟩
  have HL := Lib.hid hL
  have HM := Lib.hid hM
  clear hL hM
  by_cases hlen : 40 < l.length
  · have i1 : decide ((40 : Int) < l.length) = true := decide_eq_true (by omega)
    go_enter Try.func5, Try.ntmps5
    go_wp2
    go_ret
    exact ⟨rfl, Below.refl _ _⟩
  · by_cases hml : m.length < l.length
    · have i1 : decide ((40 : Int) < l.length) = false := decide_eq_false (by omega)
      have i2 : decide ((m.length : Int) < l.length) = true := decide_eq_true (by omega)
      go_enter Try.func5, Try.ntmps5
      go_wp2
      go_ret
      exact ⟨rfl, Below.refl _ _⟩
    · have i1 : decide ((40 : Int) < l.length) = false := decide_eq_false (by omega)
      have i2 : decide ((m.length : Int) < l.length) = false := decide_eq_false (by omega)
      have hgoes := Lib.hid goes16
      go_enter Try.func5, Try.ntmps5
      go_wp2_with fail
      refine (new_any (-1) _).mono ?_
      rintro e w1 ⟨p, b1, b2, rfl, hp, hb1, hb2, hm, hb⟩
      have HS1 := Lib.hid hm
      have HB1 := Lib.hid hb
      have HP := Lib.hid (And.intro hp (And.intro hb1 hb2))
      clear hm hb hp hb1 hb2 i1 i2
      unfold pV
      go_wp2_with fail
      go_loopw [6] (fun i wr => ∃ j : Nat, j ≤ l.length ∧ i = .int .i64 j ∧ Hid (MemIs wr p (-1) b1 b2 (nowN l m j) []) ∧ Hid (Below w.heap.size w wr)) (fun i _ => l.length - (intOf i).toNat)
      case atStart => exact ⟨0, by omega, rfl, HS1, HB1⟩
      case round =>
        obtain ⟨j, hj, rfl, HS2, HB2⟩ := hrel
        by_cases hlt : j < l.length
        · have hne1 : ∀ b o, la = some ⟨b, o, none⟩ → ¬ (b = b1) := by
            intro b o h
            obtain ⟨b', o', he, hc, _⟩ := HL.out.at_ hlt
            have := World.block_lt_of_cell? w _ hc
            rw [h] at he
            injection he with he; injection he with he1 he2
            have := HP.out.2.1
            simp only at *; omega
          have hne2 : ∀ b o, ma = some ⟨b, o, none⟩ → ¬ (b = b1) := by
            intro b o h
            obtain ⟨b', o', he, hc, _⟩ := HM.out.at_ (j := j) (by omega)
            have := World.block_lt_of_cell? w _ hc
            rw [h] at he
            injection he with he; injection he with he1 he2
            have := HP.out.2.1
            simp only at *; omega
          obtain ⟨lb, lo, hla, c1, r1⟩ := (HL.out.below HB2.out).at_ hlt
          obtain ⟨mb, mo, hma, c2, r2⟩ := (HM.out.below HB2.out).at_ (j := j) (by omega)
          replace hne1 := hne1 lb lo hla
          replace hne2 := hne2 mb mo hma
          subst hla; subst hma
          have hnl := Nat.le_trans (nowN_len l m j) hj
          have hq1 := Lib.hid (putE_kk l m j)
          have hq2 := Lib.hid (putA_kk l m j)
          have hkk := Lib.hid (show keyS 5 [l.getD j 0, m.getD j 0] = kk l m j from rfl)
          have hjl : (j : Int) < (l.length : Int) := by omega
          have hjm : (j : Int) < (m.length : Int) := by omega
          generalize l.getD j 0 = x at c1 r1 hkk
          generalize m.getD j 0 = y at c2 r2 hkk
          have R1 := Lib.hid r1
          have R2 := Lib.hid r2
          have N1 := Lib.hid hne1
          have N2 := Lib.hid hne2
          have N3 := Lib.hid hnl
          clear r1 r2 hne1 hne2 hnl
          go_wp2_with fail
          go_region_held3 (fun w' => w'.cell? ⟨lb, lo + j, none⟩ = some (.int .u64 x) ∧ w'.cell? ⟨mb, mo + j, none⟩ = some (.int .u64 y)) (first | exact ⟨c15, c25⟩ | exact ⟨c14, c24⟩ | go_keep)
            (first
              | (go_at_call 15; refine (key_any 5 (by decide) (by decide) _ [x, y] _ (US.lit2 wr x y R1.out R2.out _).drew (by simp)).mono ?_; rintro e w4 ⟨v4, rfl, ho, hb⟩
                 have hb0 := below_and ((Below.refl wr.heap.size wr).alloc (Nat.le_refl _) _).drew hb
                 have c14 := (Keep.ofBelow hb0 (fun _ => False)).cell c1 (fun h => h)
                 have c24 := (Keep.ofBelow hb0 (fun _ => False)).cell c2 (fun h => h)
                 have HS4 := Lib.hid (HS2.out.below hb0)
                 have HB4 := Lib.hid (HB2.out.trans (hb0.mono HB2.out.size))
                 have hbs := ho.bs
                 rw [hkk.out] at hbs
                 have HK4 := Lib.hid hbs
                 clear ho hb hb0 hbs)
              | (go_at_call 22; refine (put_any p (-1) b1 b2 (nowN l m j) [] v4 (.slice none 0 0) (kk l m j) ByteArray.empty w4 HS4.out HK4.out (BS.nil _) (by have := N3.out; omega)).mono ?_; rintro e w5 ⟨rfl, hs, hk⟩
                 have c15 := hk.cell c14 N1.out
                 have c25 := hk.cell c24 N2.out
                 rw [hq2.out] at hs
                 rw [hq1.out]
                 have HS5 := Lib.hid hs
                 have HB5 := Lib.hid (HB4.out.trans (hk.below HB4.out.size (fun i hi => by subst hi; exact HP.out.2.1)))
                 clear hs hk))
          go_wp2
          go_roundw
          case rel => exact ⟨j + 1, by omega, by go_num, HS5, HB5⟩
          case measure => simp [intOf]; omega
        · have hje : j = l.length := by omega
          subst hje
          obtain ⟨now, hnow⟩ : ∃ now, now = nowN l m l.length := ⟨_, rfl⟩
          have hsm : Small now := by rw [hnow]; exact nowN_small _ _ _ (by omega)
          have hnd : AL.ND now := by rw [hnow]; exact nowN_nd _ _ _
          have hmem := Lib.hid (show ∀ q, q ∈ now ↔ ∃ i, i < l.length ∧ q = (kk l m i, ByteArray.empty) by rw [hnow]; exact nowN_mem l m _)
          rw [← hnow] at HS2
          have HSM := Lib.hid hsm
          have HND := Lib.hid hnd
          clear hnow hsm hnd HS1 HB1
          obtain ⟨wo, rfl⟩ : ∃ wo : World, wo = wr := ⟨_, rfl⟩
          go_wp2_with fail
          refine (key_any 5 (by decide) (by decide) (.slice none 0 0) [] _ (US.nil _) (by simp)).mono ?_
          rintro e w2 ⟨v2, rfl, ho, hb⟩
          have HK2 := Lib.hid ho.bs
          have HB2' := Lib.hid (HB2.out.trans (hb.mono HB2.out.size))
          have HS3 := Lib.hid (HS2.out.below hb)
          clear ho hb
          go_wp2_with fail
          refine (scan_any p (-1) b1 b2 now [] v2 (keyS 5 []) w2 HS3.out HK2.out HSM.out HND.out).mono ?_
          rintro e w3 ⟨av, rfl, hpr, hb⟩
          obtain ⟨al, hal⟩ : ∃ al, al = AL.scan (keyS 5 []) now := ⟨_, rfl⟩
          rw [← hal] at hpr
          have hall : al.length ≤ 1000000 := by rw [hal]; exact Nat.le_trans (scan_len _ _) HSM.out.1
          have HAL := Lib.hid hal
          clear hal
          obtain ⟨aa, ac, rfl, hac⟩ := hpr
          have HPR := Lib.hid (show PR w3 (.slice aa al.length ac) al from ⟨aa, ac, rfl, hac⟩)
          have HB3 := Lib.hid (HB2'.out.trans (hb.mono HB2'.out.size))
          have HS4 := Lib.hid (HS3.out.below hb)
          clear hac hb HS2 HS3 HK2
          go_wp2_with fail
          go_loopw [9] (fun i wr => ∃ j : Nat, j ≤ l.length ∧ i = .int .i64 j ∧ Hid (MemIs wr p (-1) b1 b2 now []) ∧ Hid (PR wr (.slice aa al.length ac) al) ∧ Hid (Below w.heap.size w wr)) (fun i _ => l.length - (intOf i).toNat)
          case atStart => exact ⟨0, by omega, rfl, HS4, HPR, HB3⟩
          case round =>
            obtain ⟨j, hj, rfl, HS5, HP5, HB5⟩ := hrel
            by_cases hlt : j < l.length
            · obtain ⟨lb, lo, hla, c1, r1⟩ := (HL.out.below HB5.out).at_ hlt
              obtain ⟨mb, mo, hma, c2, r2⟩ := (HM.out.below HB5.out).at_ (j := j) (by omega)
              subst hla; subst hma
              have hkk := Lib.hid (show keyS 5 [l.getD j 0, m.getD j 0] = kk l m j from rfl)
              have hjl : (j : Int) < (l.length : Int) := by omega
              have hjm : (j : Int) < (m.length : Int) := by omega
              generalize l.getD j 0 = x at c1 r1 hkk
              generalize m.getD j 0 = y at c2 r2 hkk
              have R1 := Lib.hid r1
              have R2 := Lib.hid r2
              clear r1 r2
              obtain ⟨wp, rfl⟩ : ∃ wp : World, wp = wr := ⟨_, rfl⟩
              go_wp2_with fail
              refine (key_any 5 (by decide) (by decide) _ [x] _ (US.lit1 _ x R1.out.1 R1.out.2 _) (by simp)).mono ?_
              rintro e w6 ⟨v6, rfl, ho, hb⟩
              have hb0 := below_and ((Below.refl wp.heap.size wp).alloc (Nat.le_refl _) _) hb
              have HS6 := Lib.hid (HS5.out.below hb0)
              have HP6 := Lib.hid (HP5.out.below hb0)
              have HK6 := Lib.hid ho.bs
              have HB6 := Lib.hid (HB5.out.trans (hb0.mono HB5.out.size))
              have C1 := Lib.hid ((Keep.ofBelow hb0 (fun _ => False)).cell c1 (fun h => h))
              have C2 := Lib.hid ((Keep.ofBelow hb0 (fun _ => False)).cell c2 (fun h => h))
              clear ho hb hb0 c1 c2
              go_wp2_with fail
              refine (scan_any p (-1) b1 b2 now [] v6 (keyS 5 [x]) w6 HS6.out HK6.out HSM.out HND.out).mono ?_
              rintro e w7 ⟨sv, rfl, hpr, hb⟩
              obtain ⟨sl, hsl⟩ : ∃ sl, sl = AL.scan (keyS 5 [x]) now := ⟨_, rfl⟩
              rw [← hsl] at hpr
              have HSL := Lib.hid hsl
              have hsll : sl.length ≤ 1000000 := by rw [hsl]; exact Nat.le_trans (scan_len _ _) HSM.out.1
              obtain ⟨sa, sc, rfl, hsc⟩ := hpr
              have HPS := Lib.hid (show PR w7 (.slice sa sl.length sc) sl from ⟨sa, sc, rfl, hsc⟩)
              have HB7 := Lib.hid (HB6.out.trans (hb.mono HB6.out.size))
              have HS7 := Lib.hid (HS6.out.below hb)
              have HP7 := Lib.hid (HP6.out.below hb)
              have C17 := Lib.hid ((Keep.ofBelow hb (fun _ => False)).cell C1.out (fun h => h))
              have C27 := Lib.hid ((Keep.ofBelow hb (fun _ => False)).cell C2.out (fun h => h))
              clear hsl hsc hb HS6 HP6 C1 C2 HK6 HS5 HP5
              go_wp2_with fail
              go_loopw [12, 13] (fun f i wr => ∃ t : Nat, t ≤ sl.length ∧ i = .int .i64 t ∧ f = .bool ((sl.take t).any fun q => decide (q.1 = kk l m j)) ∧ Hid (Below w7.heap.size w7 wr)) (fun _ i _ => sl.length - (intOf i).toNat)
              case atStart => exact ⟨0, by omega, rfl, rfl, Lib.hid (Below.refl _ _)⟩
              case round =>
                obtain ⟨t, ht, rfl, rfl, HB8⟩ := hrel
                by_cases hts : t < sl.length
                · obtain ⟨q, hq⟩ : ∃ q, sl[t]? = some q := ⟨_, List.getElem?_eq_getElem hts⟩
                  have hany := Lib.hid (any_snoc (fun q => decide (q.1 = kk l m j)) sl t q hq)
                  obtain ⟨a', cap', he, _, _, h3⟩ := HPS.out.below HB8.out
                  injection he with he _ hcap
                  subst he; subst hcap
                  rcases h3 with h3 | ⟨g, rfl, h3⟩
                  · rw [h3] at hts; simp at hts
                  · obtain ⟨kv, vv, d1, d2, e1, e2⟩ := h3 t q hq
                    rw [Nat.mul_comm] at d1
                    have hti : (t : Int) < (sl.length : Int) := by omega
                    clear h3 d2 e2 hq
                    cases hf : (sl.take t).any fun q => decide (q.1 = kk l m j) with
                    | true =>
                      clear d1 e1
                      have hany2 := Lib.hid (show (sl.take (t + 1)).any (fun q => decide (q.1 = kk l m j)) = true by rw [hany.out, hf]; rfl)
                      go_wp2_with fail
                      go_quiet (fail)
                      go_wp2_with fail
                      go_roundw
                      case rel => exact ⟨t + 1, by omega, by go_num, by rw [hany2.out], Lib.hid (below_drewN HB8.out _)⟩
                      case measure => simp [intOf]; omega
                    | false =>
                      have hany2 := Lib.hid (show (sl.take (t + 1)).any (fun q => decide (q.1 = kk l m j)) = decide (q.1 = kk l m j) by rw [hany.out, hf]; rfl)
                      have c18 := (Keep.ofBelow HB8.out (fun _ => False)).cell C17.out (fun h => h)
                      have c28 := (Keep.ofBelow HB8.out (fun _ => False)).cell C27.out (fun h => h)
                      have E1 := Lib.hid e1
                      have convA := e1.drew.string (P := Try.prog) 23 5 9 uBytes uByte uStr
                      have convB := (e1.alloc (.cells #[.int .u64 x, .int .u64 y] 42)).drew.string (P := Try.prog) 23 5 9 uBytes uByte uStr
                      clear e1
                      go_wp2_with fail
                      have cA1 : wr.drew.cell? ⟨lb, lo + j, none⟩ = some (.int .u64 x) := c18
                      have cA2 : wr.drew.cell? ⟨mb, mo + j, none⟩ = some (.int .u64 y) := c28
                      have cA3 : wr.drew.cell? ⟨g, t * 2, none⟩ = some kv := d1
                      have cB3 : (wr.alloc (.cells #[.int .u64 x, .int .u64 y] 42)).drew.cell? ⟨g, t * 2, none⟩ = some kv := ((Keep.refl (fun _ => False) wr).alloc _).drew.cell d1 (fun h => h)
                      have SB : (wr.alloc (.cells #[.int .u64 x, .int .u64 y] 42)).drew.cell? ⟨lb, lo + j, none⟩ = some (.int .u64 x) ∧ (wr.alloc (.cells #[.int .u64 x, .int .u64 y] 42)).drew.cell? ⟨mb, mo + j, none⟩ = some (.int .u64 y) ∧ (wr.alloc (.cells #[.int .u64 x, .int .u64 y] 42)).drew.cell? ⟨g, t * 2, none⟩ = some kv ∧ (convert 23 9 kv).run Try.prog (wr.alloc (.cells #[.int .u64 x, .int .u64 y] 42)).drew = .ok (.string q.1) (wr.alloc (.cells #[.int .u64 x, .int .u64 y] 42)).drew := ⟨((Keep.refl (fun _ => False) wr).alloc _).drew.cell c18 (fun h => h), ((Keep.refl (fun _ => False) wr).alloc _).drew.cell c28 (fun h => h), cB3, convB⟩
                      refine wp_region_held_drew (S := (fun w' => w'.cell? ⟨lb, lo + j, none⟩ = some (.int .u64 x) ∧ w'.cell? ⟨mb, mo + j, none⟩ = some (.int .u64 y) ∧ w'.cell? ⟨g, t * 2, none⟩ = some kv ∧ (convert 23 9 kv).run Try.prog w' = .ok (.string q.1) w')) (by kernel_rfl) ?_ (fun hHeld0 => ?_)
                      · (try dsimp only)
                        first | exact ⟨cA1, cA2, cA3, convA⟩ | exact ⟨c19, c29, c39, conv2⟩ | exact SB
                      refine takeN (v := ?_) 0 rfl (by kernel_rfl) (by kernel_rfl) (by kernel_rfl) (fun _ _ _ h => h) (by rfl) ?_ hHeld0 ?_
                      rotate_left
                      · intro w hSw; (try dsimp only at hSw); go_simp; with_reducible rfl
                      try simp only [Act.put, List.setIfInBounds_toArray, List.set_cons_zero, List.set_cons_succ]
                      refine takeN (v := ?_) 1 rfl (by kernel_rfl) (by kernel_rfl) (by kernel_rfl) (fun _ _ _ h => h) (by rfl) ?_ hHeld0 ?_
                      rotate_left
                      · intro w hSw; (try dsimp only at hSw); go_simp; with_reducible rfl
                      try simp only [Act.put, List.setIfInBounds_toArray, List.set_cons_zero, List.set_cons_succ]
                      refine takeN (v := ?_) 2 rfl (by kernel_rfl) (by kernel_rfl) (by kernel_rfl) (fun _ _ _ h => h) (by rfl) ?_ hHeld0 ?_
                      rotate_left
                      · intro w hSw; (try dsimp only at hSw); go_simp; with_reducible rfl
                      try simp only [Act.put, List.setIfInBounds_toArray, List.set_cons_zero, List.set_cons_succ]
                      refine takeN (v := ?_) 3 rfl (by kernel_rfl) (by kernel_rfl) (by kernel_rfl) (fun _ _ _ h => h) (by rfl) ?_ hHeld0 ?_
                      rotate_left
                      · intro w hSw; (try dsimp only at hSw); go_simp; with_reducible rfl
                      try simp only [Act.put, List.setIfInBounds_toArray, List.set_cons_zero, List.set_cons_succ]
                      refine takeN (v := ?_) 4 rfl (by kernel_rfl) (by kernel_rfl) (by kernel_rfl) (fun _ _ _ h => h) (by rfl) ?_ hHeld0 ?_
                      rotate_left
                      · intro w hSw; (try dsimp only at hSw); go_simp; with_reducible rfl
                      try simp only [Act.put, List.setIfInBounds_toArray, List.set_cons_zero, List.set_cons_succ]
                      refine takeN (v := ?_) 5 rfl (by kernel_rfl) (by kernel_rfl) (by kernel_rfl) (fun _ _ _ h => h) (by rfl) ?_ hHeld0 ?_
                      rotate_left
                      · intro w hSw; (try dsimp only at hSw); go_simp; with_reducible rfl
                      try simp only [Act.put, List.setIfInBounds_toArray, List.set_cons_zero, List.set_cons_succ]
                      refine takeN (v := ?_) 6 rfl (by kernel_rfl) (by kernel_rfl) (by kernel_rfl) (fun _ _ _ h => h) (by rfl) ?_ hHeld0 ?_
                      rotate_left
                      · intro w hSw; (try dsimp only at hSw); go_simp; with_reducible rfl
                      try simp only [Act.put, List.setIfInBounds_toArray, List.set_cons_zero, List.set_cons_succ]
                      refine takeN (v := ?_) 7 rfl (by kernel_rfl) (by kernel_rfl) (by kernel_rfl) (fun _ _ _ h => h) (by rfl) ?_ hHeld0 ?_
                      rotate_left
                      · intro w hSw; (try dsimp only at hSw); go_simp; with_reducible rfl
                      try simp only [Act.put, List.setIfInBounds_toArray, List.set_cons_zero, List.set_cons_succ]
                      refine takeN (v := ?_) 8 rfl (by kernel_rfl) (by kernel_rfl) (by kernel_rfl) (fun _ _ _ h => h) (by rfl) ?_ hHeld0 ?_
                      rotate_left
                      · intro w hSw; (try dsimp only at hSw); go_simp; with_reducible rfl
                      try simp only [Act.put, List.setIfInBounds_toArray, List.set_cons_zero, List.set_cons_succ]
                      refine takeN (v := ?_) 9 rfl (by kernel_rfl) (by kernel_rfl) (by kernel_rfl) (fun _ _ _ h => h) (by rfl) ?_ hHeld0 ?_
                      rotate_left
                      · intro w hSw; (try dsimp only at hSw); go_simp; with_reducible rfl
                      try simp only [Act.put, List.setIfInBounds_toArray, List.set_cons_zero, List.set_cons_succ]
                      refine takeN (v := ?_) 10 rfl (by kernel_rfl) (by kernel_rfl) (by kernel_rfl) (fun _ _ _ h => h) (by rfl) ?_ hHeld0 ?_
                      rotate_left
                      · intro w hSw; (try dsimp only at hSw); go_simp; with_reducible rfl
                      try simp only [Act.put, List.setIfInBounds_toArray, List.set_cons_zero, List.set_cons_succ]
                      refine takeN (v := ?_) 11 rfl (by kernel_rfl) (by kernel_rfl) (by kernel_rfl) (fun _ _ _ h => h) (by rfl) ?_ hHeld0 ?_
                      rotate_left
                      · intro w hSw; (try dsimp only at hSw); go_simp; with_reducible rfl
                      try simp only [Act.put, List.setIfInBounds_toArray, List.set_cons_zero, List.set_cons_succ]
                      refine takeN (v := ?_) 12 rfl (by kernel_rfl) (by kernel_rfl) (by kernel_rfl) (fun _ _ _ h => h) (by rfl) ?_ hHeld0 ?_
                      rotate_left
                      · intro w hSw; (try dsimp only at hSw); go_simp; with_reducible rfl
                      try simp only [Act.put, List.setIfInBounds_toArray, List.set_cons_zero, List.set_cons_succ]
                      refine takeN (v := ?_) 13 rfl (by kernel_rfl) (by kernel_rfl) (by kernel_rfl) (fun _ _ _ h => h) (by rfl) ?_ hHeld0 ?_
                      rotate_left
                      · intro w hSw; (try dsimp only at hSw); go_simp; with_reducible rfl
                      try simp only [Act.put, List.setIfInBounds_toArray, List.set_cons_zero, List.set_cons_succ]
                      refine takeN (v := ?_) 14 rfl (by kernel_rfl) (by kernel_rfl) (by kernel_rfl) (fun _ _ _ h => h) (by rfl) ?_ hHeld0 ?_
                      rotate_left
                      · intro w hSw; (try dsimp only at hSw); go_simp; with_reducible rfl
                      try simp only [Act.put, List.setIfInBounds_toArray, List.set_cons_zero, List.set_cons_succ]
                      refine takeN (v := ?_) 15 rfl (by kernel_rfl) (by kernel_rfl) (by kernel_rfl) (fun _ _ _ h => h) (by rfl) ?_ hHeld0 ?_
                      rotate_left
                      · intro w hSw; (try dsimp only at hSw); go_simp; with_reducible rfl
                      try simp only [Act.put, List.setIfInBounds_toArray, List.set_cons_zero, List.set_cons_succ]
                      refine wpAnyH_ready (rs := [16]) (by kernel_rfl) (by simp) ?_
                      refine readyN rfl (fun K hK => ?_) ?_
                      · -- operation 16
                        go_simp
                        refine hK.out _ _ ?_ (fun hHeld1 => ?_)
                        · (try dsimp only)
                          first | exact ⟨cA1, cA2, cA3, convA⟩ | exact ⟨c19, c29, c39, conv2⟩ | exact SB
                        clear hK K hHeld0
                        try simp only [Act.put, List.setIfInBounds_toArray, List.set_cons_zero, List.set_cons_succ]
                        refine wpAnyH_ready (rs := [17]) (by kernel_rfl) (by simp) ?_
                        refine readyN rfl (fun K hK => ?_) ?_
                        · -- operation 17
                          go_simp
                          (go_at_call 15; refine (key_any 5 (by decide) (by decide) _ [x, y] _ (US.lit2 wr x y R1.out R2.out _).drew (by simp)).mono ?_; rintro e w9 ⟨v9, rfl, ho, hb⟩
                           have hb0 := below_and ((Below.refl wr.heap.size wr).alloc (Nat.le_refl _) _).drew hb
                           have c19 := (Keep.ofBelow hb0 (fun _ => False)).cell c18 (fun h => h)
                           have c29 := (Keep.ofBelow hb0 (fun _ => False)).cell c28 (fun h => h)
                           have c39 := (Keep.ofBelow hb0 (fun _ => False)).cell d1 (fun h => h)
                           have HB9 := Lib.hid (HB8.out.trans (hb0.mono HB8.out.size))
                           have hbs := ho.bs
                           rw [hkk.out] at hbs
                           have conv1 := hbs.string (P := Try.prog) 23 5 9 uBytes uByte uStr
                           have conv2 := (E1.out.below hb0).string (P := Try.prog) 23 5 9 uBytes uByte uStr
                           clear ho hb hb0 hbs)
                          go_wp2_with fail
                          refine hK.out _ _ ?_ (fun hHeld2 => ?_)
                          · (try dsimp only)
                            first | exact ⟨cA1, cA2, cA3, convA⟩ | exact ⟨c19, c29, c39, conv2⟩ | exact SB
                          clear hK K hHeld1
                          try simp only [Act.put, List.setIfInBounds_toArray, List.set_cons_zero, List.set_cons_succ]
                          refine wpAnyH_ready (rs := [18]) (by kernel_rfl) (by simp) ?_
                          refine readyN rfl (fun K hK => ?_) ?_
                          · -- operation 18
                            go_simp
                            refine hK.out _ _ ?_ (fun hHeld3 => ?_)
                            · (try dsimp only)
                              first | exact ⟨cA1, cA2, cA3, convA⟩ | exact ⟨c19, c29, c39, conv2⟩ | exact SB
                            clear hK K hHeld2
                            try simp only [Act.put, List.setIfInBounds_toArray, List.set_cons_zero, List.set_cons_succ]
                            refine takeN (v := ?_) 19 rfl (by kernel_rfl) (by kernel_rfl) (by kernel_rfl) (fun _ _ _ h => h) (by rfl) ?_ hHeld3 ?_
                            rotate_left
                            · intro w hSw; (try dsimp only at hSw); go_simp; with_reducible rfl
                            try simp only [Act.put, List.setIfInBounds_toArray, List.set_cons_zero, List.set_cons_succ]
                            refine takeN (v := ?_) 20 rfl (by kernel_rfl) (by kernel_rfl) (by kernel_rfl) (fun _ _ _ h => h) (by rfl) ?_ hHeld3 ?_
                            rotate_left
                            · intro w hSw; (try dsimp only at hSw); go_simp; with_reducible rfl
                            try simp only [Act.put, List.setIfInBounds_toArray, List.set_cons_zero, List.set_cons_succ]
                            refine takeN (v := ?_) 21 rfl (by kernel_rfl) (by kernel_rfl) (by kernel_rfl) (fun _ _ _ h => h) (by rfl) ?_ hHeld3 ?_
                            rotate_left
                            · intro w hSw; (try dsimp only at hSw); go_simp; with_reducible rfl
                            try simp only [Act.put, List.setIfInBounds_toArray, List.set_cons_zero, List.set_cons_succ]
                            refine wpAnyH_done (by kernel_rfl) ?_ _
                            go_wp2
                            go_roundw
                            case rel => exact ⟨t + 1, by omega, by go_num, by rw [hany2.out, ← seq_iff], HB9⟩
                            case measure => simp [intOf]; omega
                          exact AllReadyH.nil
                        exact AllReadyH.nil
                      exact AllReadyH.nil
                · have htl : t = sl.length := by omega
                  subst htl
                  have hfd : (sl.take sl.length).any (fun q => decide (q.1 = kk l m j)) = true := by
                    rw [List.take_length, List.any_eq_true]
                    refine ⟨(kk l m j, ByteArray.empty), ?_, by simp⟩
                    rw [HSL.out]
                    unfold AL.scan
                    rw [List.mem_filter]
                    refine ⟨(srt_perm now).symm.subset ((hmem.out _).2 ⟨j, hlt, rfl⟩), ?_⟩
                    rw [← hkk.out]
                    exact pre_key x y
                  rw [hfd]
                  have HS8 := Lib.hid (HS7.out.below HB8.out)
                  have HP8 := Lib.hid (HP7.out.below HB8.out)
                  have HB9 := Lib.hid (HB7.out.trans (HB8.out.mono HB7.out.size))
                  clear hfd HB8 HS7 HP7 HPS HSL
                  go_wp2
                  go_roundw
                  case rel => exact ⟨j + 1, by omega, by go_num, HS8, HP8, HB9⟩
                  case measure => simp [intOf]; omega
            · have hje : j = l.length := by omega
              subst hje
              have hpair := Lib.hid (show ∀ (i : Nat) (q : ByteArray × ByteArray), al[i]? = some q → ∃ c d : Int, (0 ≤ c ∧ c ≤ 18446744073709551615) ∧ (0 ≤ d ∧ d ≤ 18446744073709551615) ∧ q.1 = keyS 5 [c, d] from by
                intro i q hq
                have hm := List.mem_of_getElem? hq
                rw [HAL.out] at hm
                unfold AL.scan at hm
                obtain ⟨i', hi', rfl⟩ := (hmem.out q).1 ((srt_perm now).subset (List.mem_filter.1 hm).1)
                obtain ⟨_, _, _, _, g1⟩ := HL.out.at_ hi'
                obtain ⟨_, _, _, _, g2⟩ := HM.out.at_ (j := i') (by omega)
                exact ⟨_, _, g1, g2, rfl⟩)
              have hstr := Lib.hid (show ∀ (i : Nat) (q q' : ByteArray × ByteArray), al[i]? = some q → al[i + 1]? = some q' → slt q.1 q'.1 = true from by
                have h0 : al.Pairwise plt := by rw [HAL.out]; exact (srt_strict HND.out).sublist List.filter_sublist
                intro i q q' h1 h2
                rw [List.pairwise_iff_getElem] at h0
                obtain ⟨hi1, e1⟩ := List.getElem?_eq_some_iff.1 h1
                obtain ⟨hi2, e2⟩ := List.getElem?_eq_some_iff.1 h2
                have := h0 i (i + 1) hi1 hi2 (by omega)
                rw [e1, e2] at this
                exact this)
              clear HSM HND HS5 HAL hmem
              obtain ⟨wq, rfl⟩ : ∃ wq : World, wq = wr := ⟨_, rfl⟩
              go_wp2_with fail
              go_loop [14] (fun i => ∃ t : Nat, t ≤ al.length ∧ i = .int .i64 t) (fun i => al.length - (intOf i).toNat)
              case atStart => exact ⟨0, by omega, rfl⟩
              case round =>
                obtain ⟨t, ht, rfl⟩ := hrel
                by_cases hta : t < al.length
                · obtain ⟨q, hq⟩ : ∃ q, al[t]? = some q := ⟨_, List.getElem?_eq_getElem hta⟩
                  obtain ⟨a', cap', he, _, _, h3⟩ := HP5.out
                  injection he with he _ hcap
                  subst he; subst hcap
                  rcases h3 with h3 | ⟨g, rfl, h3⟩
                  · rw [h3] at hta; simp at hta
                  · obtain ⟨kv, vv, d1, d2, e1, e2⟩ := h3 t q hq
                    obtain ⟨c, d, _, _, hcd⟩ := hpair.out t q hq
                    obtain ⟨ka, kcap, rfl, _⟩ := e1.len2 (n := 17) (by rw [hcd, keyS_size]; rfl)
                    rw [Nat.mul_comm] at d1
                    have hti : (t : Int) < (al.length : Int) := by omega
                    clear h3 d2 e2 hq e1 hcd
                    go_wp2
                    go_round
                    case rel => exact ⟨t + 1, by omega, by go_num⟩
                    case measure => simp [intOf]; omega
                · have hta' : t = al.length := by omega
                  subst hta'
                  obtain ⟨wz, rfl⟩ : ∃ wz : World, wz = wq := ⟨_, rfl⟩
                  go_wp2_with fail
                  go_loopw [15] (fun i wr => ∃ u : Nat, u ≤ 1000000 ∧ i = .int .i64 ((u : Int) + 1) ∧ Hid (PR wr (.slice aa al.length ac) al) ∧ Hid (Below w.heap.size w wr)) (fun i _ => al.length - (intOf i).toNat)
                  case atStart => exact ⟨0, by omega, rfl, HP5, HB5⟩
                  case round =>
                    obtain ⟨u, hu, rfl, HP9, HB9⟩ := hrel
                    by_cases hua : u + 1 < al.length
                    · obtain ⟨q0, hq0⟩ : ∃ q, al[u]? = some q := ⟨_, List.getElem?_eq_getElem (by omega)⟩
                      obtain ⟨q1, hq1⟩ : ∃ q, al[u + 1]? = some q := ⟨_, List.getElem?_eq_getElem hua⟩
                      obtain ⟨a', cap', he, _, _, h3⟩ := HP9.out
                      injection he with he _ hcap
                      subst he; subst hcap
                      rcases h3 with h3 | ⟨g, rfl, h3⟩
                      · rw [h3] at hua; simp at hua
                      · obtain ⟨kv0, _, d0, _, e0, _⟩ := h3 u q0 hq0
                        obtain ⟨kv1, _, d1, _, e1, _⟩ := h3 (u + 1) q1 hq1
                        obtain ⟨x0, y0, rx0, ry0, hk0⟩ := hpair.out u q0 hq0
                        obtain ⟨x1, y1, rx1, ry1, hk1⟩ := hpair.out (u + 1) q1 hq1
                        have hlt := hstr.out u q0 q1 hq0 hq1
                        rw [hk0, hk1] at hlt
                        have hord := key_lt rx0 ry0 rx1 ry1 hlt
                        rw [hk0] at e0
                        rw [hk1] at e1
                        obtain ⟨ka0, kc0, rfl, kd0, ke0⟩ := e0.len2 (n := 17) (by rw [keyS_size]; rfl)
                        obtain ⟨ka1, kc1, rfl, kd1, ke1⟩ := e1.len2 (n := 17) (by rw [keyS_size]; rfl)
                        obtain ⟨g0, o0, rfl, _⟩ := e0.at_ (i := 0) (by rw [keyS_size]; simp)
                        obtain ⟨g1, o1, rfl, _⟩ := e1.at_ (i := 0) (by rw [keyS_size]; simp)
                        have s0x := e0.sub 1 9 (by omega) (by omega)
                        have s0y := e0.sub 9 17 (by omega) (by omega)
                        have s1x := e1.sub 1 9 (by omega) (by omega)
                        have s1y := e1.sub 9 17 (by omega) (by omega)
                        rw [sub_x] at s0x s1x
                        rw [sub_y] at s0y s1y
                        have v0x := fun n : Nat => (s0x.drewN n).string (P := Try.prog) 23 5 9 uBytes uByte uStr
                        have v0y := fun n : Nat => (s0y.drewN n).string (P := Try.prog) 23 5 9 uBytes uByte uStr
                        have v1x := fun n : Nat => (s1x.drewN n).string (P := Try.prog) 23 5 9 uBytes uByte uStr
                        have v1y := fun n : Nat => (s1y.drewN n).string (P := Try.prog) 23 5 9 uBytes uByte uStr
                        have w0x := Lib.hid (valN_be8 x0 rx0.1 rx0.2)
                        have w0y := Lib.hid (valN_be8 y0 ry0.1 ry0.2)
                        have w1x := Lib.hid (valN_be8 x1 rx1.1 rx1.2)
                        have w1y := Lib.hid (valN_be8 y1 ry1.1 ry1.2)
                        have z0x := Lib.hid (show (be8 x0).size ≤ 8 by rw [show (be8 x0).size = 8 from be_size x0 8]; omega)
                        have z0y := Lib.hid (show (be8 y0).size ≤ 8 by rw [show (be8 y0).size = 8 from be_size y0 8]; omega)
                        have z1x := Lib.hid (show (be8 x1).size ≤ 8 by rw [show (be8 x1).size = 8 from be_size x1 8]; omega)
                        have z1y := Lib.hid (show (be8 y1).size ≤ 8 by rw [show (be8 y1).size = 8 from be_size y1 8]; omega)
                        have D0 : ∀ n, (wr.drewN n).cell? ⟨g, u * 2, none⟩ = some (.slice (some ⟨g0, o0, none⟩) 17 kc0) := fun n => by rw [Nat.mul_comm]; exact d0
                        have D1 : ∀ n, (wr.drewN n).cell? ⟨g, (u + 1) * 2, none⟩ = some (.slice (some ⟨g1, o1, none⟩) 17 kc1) := fun n => by rw [Nat.mul_comm]; exact d1
                        have hwr : IntKind.i64.wrap ((u : Int) + 1 - 1) = u := by rw [IntKind.wrap_i64]; omega
                        have hu1 : ((u : Int) + 1) < (al.length : Int) := by omega
                        have hu2 : (u : Int) < (al.length : Int) := by omega
                        have HO := Lib.hid hord
                        clear h3 e0 e1 d0 d1 hlt hord s0x s0y s1x s1y hk0 hk1 hq0 hq1 rx0 ry0 rx1 ry1
                        generalize be8 x0 = bx0 at v0x w0x z0x
                        generalize be8 y0 = by0 at v0y w0y z0y
                        generalize be8 x1 = bx1 at v1x w1x z1x
                        generalize be8 y1 = by1 at v1y w1y z1y
                        simp only [Nat.reduceSub] at v0x v0y v1x v1y
                        go_wp2_with fail
                        go_quiet (first
                          | (go_at_call_of 26 (Value.string bx0); exact Calls.quiet_of_same (value_any bx0 z0x.out _))
                          | (go_at_call_of 26 (Value.string bx1); exact Calls.quiet_of_same (value_any bx1 z1x.out _)))
                        rw [w0x.out, w1x.out]
                        go_wp2_with fail
                        go_quiet (first
                          | (go_at_call_of 26 (Value.string by0); refine (value_any by0 z0y.out _).mono ?_; rintro e w' ⟨rfl, rfl⟩; exact ⟨rfl, _, rfl⟩)
                          | (go_at_call_of 26 (Value.string by1); refine (value_any by1 z1y.out _).mono ?_; rintro e w' ⟨rfl, rfl⟩; exact ⟨rfl, _, rfl⟩))
                        rw [w0y.out, w1y.out]
                        clear v0x v0y v1x v1y D0 D1 w0x w0y w1x w1y
                        rcases HO.out with ho | ⟨ho, ho2⟩
                        · have t1 : decide (x1 < x0) = false := decide_eq_false (by omega)
                          have t2 : (x0 == x1) = false := beq_eq_false_iff_ne.2 (by omega)
                          clear HO ho
                          go_wp2_with fail
                          go_roundw
                          case rel => exact ⟨u + 1, by omega, by go_num, Lib.hid (HP9.out.below (below_drewN_of _ _)), Lib.hid (below_drewN HB9.out _)⟩
                          case measure => simp [intOf]; omega
                        · subst ho
                          have t1 : decide (x0 < x0) = false := decide_eq_false (by omega)
                          have t3 : decide (y1 ≤ y0) = false := decide_eq_false (by omega)
                          clear HO ho2
                          go_wp2_with fail
                          go_roundw
                          case rel => exact ⟨u + 1, by omega, by go_num, Lib.hid (HP9.out.below (below_drewN_of _ _)), Lib.hid (below_drewN HB9.out _)⟩
                          case measure => simp [intOf]; omega
                    · have hu1 : ¬ ((u : Int) + 1 < (al.length : Int)) := by omega
                      go_wp2_with fail
                      refine (hgoes.out _).mono ?_
                      rintro e wf ⟨rfl, hb⟩
                      have HBF := Lib.hid (HB9.out.trans (hb.mono HB9.out.size))
                      clear hb
                      go_wp2
                      go_ret
                      exact ⟨rfl, HBF.out⟩
end Go.Proofs.Ytiadoimdohnebaa
