/- The walk of LeaseKnown. -/
import Derived.Test.YtidppalhjknlfaaGoes20
import Derived.Test.YtidppalhjknlfaaRange2
namespace Go.Proofs.Ytidppalhjknlfaa
open Go.RowKit
set_option maxRecDepth 100000
set_option linter.unusedVariables false
set_option linter.unusedSimpArgs false
set_option maxHeartbeats 4000000
theorem LR.lit (W : World) (L : List Ls) (hl : L.length ≤ 1000000) : LR (W.alloc (.cells (cells5 L).toArray 31)) (.slice (some ⟨W.heap.size, 0, none⟩) L.length L.length) L := by
  refine ⟨_, L.length, rfl, Nat.le_refl _, by unfold maxLen; omega, (fun e => by cases e), .inr ⟨_, 0, rfl, fun i x hi k u hu => ?_⟩⟩
  rw [blk_cell (blk_new W _)]
  have hk : k < 5 := by
    have := (List.getElem?_eq_some_iff.1 hu).1
    rwa [c5_len] at this
  rw [Nat.zero_add, List.getElem?_toArray, cells5_get L i x k hi hk]
  exact hu
/-- all keys are a tenant's -/
def Only (t : Int) (now : AL) : Prop := ∀ q ∈ now, q.1 = mk t ∨ pre (lp t) q.1 = true
theorem Only.nil (t : Int) : Only t [] := fun q h => by simp at h
theorem Only.del {t : Int} {now : AL} (h : Only t now) (hn : AL.ND now) (k : ByteArray) : Only t (AL.del k now) := fun q hq => h q ((mem_del hn).1 hq).1
theorem Only.dels {t : Int} : ∀ (G : List Ls) {now : AL}, AL.ND now → Only t now → Only t (Go.Proofs.Ytidppalhjknlfaa.dels now t G)
  | [], _, _, h => h
  | g :: G, _, hn, h => Only.dels G (nd_del hn) (h.del hn _)
theorem Only.addA {t : Int} {now : AL} (h : Only t now) (hn : AL.ND now) (l : Ls) : Only t (Go.Proofs.Ytidppalhjknlfaa.addA now t l) := fun q hq => by
  have hn1 : AL.ND (AL.put (lk t l.id) l.enc now) := nd_put hn
  rcases (mem_put hn1).1 hq with rfl | ⟨hq, _⟩
  · exact .inl rfl
  · rcases (mem_put hn).1 hq with rfl | ⟨hq, _⟩
    · exact .inr (pre_lk _ _)
    · exact h q hq
theorem Only.addS {t : Int} {now : AL} (h : Only t now) (hn : AL.ND now) (L : List Ls) (last : Int) (l : Ls) (at_ : Int) : Only t (Go.Proofs.Ytidppalhjknlfaa.addS now t L last l at_) := by
  unfold Go.Proofs.Ytidppalhjknlfaa.addS
  split
  · exact (h.dels _ hn).addA (dels_nd _ _ hn) _
  · exact h
theorem only_two {t : Int} {now : AL} {x : Ls} {last : Int} (hn : AL.ND now) (ho : Only t now) (hs : LS now t [x] last) (hl : last ≠ 0) : (AL.range ByteArray.empty ByteArray.empty now).length = 2 := by
  have e : AL.range ByteArray.empty ByteArray.empty now = AL.srt now := by
    unfold AL.range
    refine List.filter_eq_self.2 fun p _ => ?_
    unfold selB
    have h1 : (ByteArray.empty).size = 0 := rfl
    simp [slt]
    cases p.1.toList <;> rfl
  rw [e, (srt_perm now).length_eq]
  have hg := hs.num
  rw [if_neg hl] at hg
  have hne : (mk t, be8 last) ≠ (lk t x.id, x.enc) := fun e => mk_lk (congrArg Prod.fst e)
  have hp : now.Perm [(mk t, be8 last), (lk t x.id, x.enc)] := by
    refine (List.perm_ext_iff_of_nodup (nd_nodup hn) (List.nodup_cons.2 ⟨by simpa using hne, List.nodup_cons.2 ⟨by simp, List.nodup_nil⟩⟩)).2 fun q => ?_
    constructor
    · intro hq
      rcases ho q hq with h | h
      · have h2 : AL.get (mk t) now = some q.2 := (get_some hn).2 (by rw [← h]; exact hq)
        rw [hg] at h2
        injection h2 with h2
        exact List.mem_cons.2 (.inl (Prod.ext h h2.symm))
      · obtain ⟨l, hl, e⟩ := hs.all q hq h
        obtain rfl := List.mem_singleton.1 hl
        simp [e]
    · intro hq
      rcases List.mem_cons.1 hq with rfl | hq
      · exact (get_some hn).1 hg
      · obtain rfl := List.mem_singleton.1 hq
        exact hs.at_ x (by simp)
  rw [hp.length_eq]; rfl
def BAD : List Ls := [⟨0, 1, 86401, 0, 0⟩, ⟨0, 0, 60, 0, 0⟩, ⟨0, 1099511627777, 60, 0, 0⟩, ⟨0, 1, 0, 0, 0⟩, ⟨0, -1, 60, 0, 0⟩]
theorem bad_e : ∀ x ∈ BAD, addE [] x 0 = 1 := by decide +kernel
theorem bad_ok : ∀ x ∈ BAD, x.Ok := by
  intro x hx
  simp only [BAD, List.mem_cons, List.not_mem_nil, or_false] at hx
  rcases hx with rfl | rfl | rfl | rfl | rfl <;> exact ⟨by decide, by unfold W64; decide, by unfold W64; decide, by unfold W64; decide, by unfold W64; decide⟩
def k60 : Ls := ⟨0, 1, 60, 0, 0⟩
theorem k60_ok : k60.Ok := ⟨by decide, by unfold W64; decide, by unfold W64; decide, by unfold W64; decide, by unfold W64; decide⟩
/-- the store behind j leases that end at 60 -/
def LK (w : World) (p b1 b2 : Nat) (j : Nat) : Prop := ∃ S L, MemIs w p (-1) b1 b2 S [] ∧ LS S 1 L j ∧ St (2 * j) S ∧ Only 1 S ∧ L.length = j ∧ ∀ l ∈ L, l.exp = 60
theorem live60 {L : List Ls} (h : ∀ l ∈ L, l.exp = 60) : live 0 L = L ∧ live 60 L = [] := by
  refine ⟨List.filter_eq_self.2 fun l hl => decide_eq_true (by rw [h l hl]; decide), List.filter_eq_nil_iff.2 fun l hl => ?_⟩
  rw [decide_eq_true_eq, h l hl]; omega
theorem may60 : mayAdd k60 0 := by decide +kernel
theorem lknown_any (w : World) :
    Calls Try.prog 7 #[] w fun e w' => e = .returned (.bool true) ∧ Below w.heap.size w w' := by
  have HG := Lib.hid goes20
  have u1 : U32 1 := by unfold U32; decide
  go_enter Try.func7, Try.ntmps7
  go_wp2_with fail
  refine (new_any (-1) _).mono ?_
  rintro e w1 ⟨p, b1, b2, rfl, hp, hb1, hb2, hm, hb⟩
  have HM1 := Lib.hid (hm.below ((Below.refl w1.heap.size w1).alloc (Nat.le_refl _) (.cells (cells5 BAD).toArray 31)))
  have HB1 := Lib.hid (hb.alloc hb.size (.cells (cells5 BAD).toArray 31))
  have HR1 := Lib.hid (LR.lit w1 BAD (by decide))
  have HP := Lib.hid hb1
  have HBL := Lib.hid (show BAD.length = 5 from rfl)
  clear hm hb hp hb1 hb2
  unfold pV
  go_wp2_with fail
  go_loopw [3] (fun s wr => ∃ j : Nat, j ≤ 5 ∧ s = .int .i64 j ∧ Hid (MemIs wr p (-1) b1 b2 [] []) ∧ Hid (LR wr (.slice (some ⟨w1.heap.size, 0, none⟩) 5 5) BAD) ∧ Hid (Below w.heap.size w wr)) (fun s _ => 5 - (intOf s).toNat)
  case atStart => exact ⟨0, by omega, rfl, HM1, HR1, HB1⟩
  case round =>
    clear HM1 HR1 HB1
    obtain ⟨j, hj, rfl, HM, HR, HB⟩ := hrel
    by_cases hlt : j < 5
    · obtain ⟨x, hx⟩ : ∃ x, BAD[j]? = some x := ⟨_, List.getElem?_eq_getElem (by rw [HBL.out]; exact hlt)⟩
      have hxm := List.mem_of_getElem? hx
      obtain ⟨g, off, cap', he, c0, c1, c2, c3, c4⟩ := HR.out.at_ hx
      injection he with he n1 n2
      injection he with he
      injection he with e1 e2 e3
      subst e1; subst e2
      clear n1 n2 e3
      simp only [Nat.zero_add] at c0 c1 c2 c3 c4
      have ha := ladd_any p b1 b2 [] [] 1 u1 [] 0 x (bad_ok x hxm) 0 (by unfold W64; decide) wr HM.out small_nil List.Pairwise.nil (LS.nil 1) (by decide) (by decide)
      have h1 := bad_e x hxm
      unfold addI addS at ha
      rw [h1, if_neg (by decide), if_neg (by decide)] at ha
      unfold sV Ls.val at ha
      have HA := Lib.hid ha
      have i5 : (j : Int) < 5 := by omega
      clear ha h1 hx hxm
      go_wp2_with fail
      refine HA.out.mono ?_
      rintro e w3 ⟨rfl, hm, hk⟩
      have HM3 := Lib.hid hm
      have HR3 := Lib.hid (HR.out.mem HM.out.now hk)
      have HB3 := Lib.hid (HB.out.trans (hk.below (B := w.heap.size) HB.out.size (fun i hi => by subst hi; exact HP.out)))
      clear hm hk HA
      go_wp2_with fail
      refine ⟨⟨j + 1, by omega, by go_num, HM3, HR3, HB3⟩, by simp [intOf]; omega⟩
    · obtain rfl : j = 5 := by omega
      have ha := ladd_any p b1 b2 [] [] 1 u1 [] 0 ⟨0, 1, 137438953473, 0, 0⟩ ⟨by decide, by unfold W64; decide, by unfold W64; decide, by unfold W64; decide, by unfold W64; decide⟩ 137438953472 (by unfold W64; decide) wr HM.out small_nil List.Pairwise.nil (LS.nil 1) (by decide) (by decide)
      have h1 : addE [] ⟨0, 1, 137438953473, 0, 0⟩ 137438953472 = 1 := by decide +kernel
      unfold addI addS at ha
      rw [h1, if_neg (by decide), if_neg (by decide)] at ha
      unfold sV Ls.val at ha
      have HA := Lib.hid ha
      clear ha h1 hlt hj
      go_wp2_with fail
      refine HA.out.mono ?_
      rintro e w3 ⟨rfl, hm, hk⟩
      have HB3 := Lib.hid (HB.out.trans (hk.below (B := w.heap.size) HB.out.size (fun i hi => by subst hi; exact HP.out)))
      have HL3 := Lib.hid (show LK w3 p b1 b2 0 from ⟨[], [], hm, LS.nil 1, St.nil, Only.nil 1, rfl, by simp⟩)
      clear hm hk HA HM HR HB
      go_wp2_with fail
      go_loopw [8] (fun s wr => ∃ j : Nat, j ≤ 8 ∧ s = .int .i64 j ∧ Hid (LK wr p b1 b2 j) ∧ Hid (Below w.heap.size w wr)) (fun s _ => 8 - (intOf s).toNat)
      case atStart => exact ⟨0, by omega, rfl, HL3, HB3⟩
      case round =>
        clear HL3 HB3
        obtain ⟨j, hj, rfl, HH, HB⟩ := hrel
        obtain ⟨S, L, hS, hI, hT, hO, hLl, hL6⟩ := HH.out
        obtain ⟨l0, l60⟩ := live60 hL6
        by_cases hlt : j < 8
        · have h1 : addE L k60 0 = 0 := by unfold addE; rw [if_neg (fun h => h may60), l0, if_neg (by omega)]
          have ha := ladd_any p b1 b2 S [] 1 u1 L j k60 k60_ok 0 (by unfold W64; decide) wr hS (hT.toSmall (by omega)) hT.nd hI (by omega) (by omega)
          have hi' := hI.addS hT.nd u1 k60 k60_ok (by omega) 0
          have ho' := hO.addS hT.nd L j k60 0
          have ht' := hT.addS 1 L j k60 0
          have e1 : addI L j k60 0 = j + 1 := by unfold addI; rw [h1, if_pos rfl]
          have e2 : addL L j k60 0 = L ++ [⟨j + 1, 1, 60, 0, 0⟩] := by unfold addL; rw [h1, if_pos rfl, l0]; rfl
          have e3 : addN L j k60 0 = j + 1 := by unfold addN; rw [h1, if_pos rfl]
          rw [h1, e1] at ha
          rw [e2, e3] at hi'
          unfold sV Ls.val at ha
          have HA := Lib.hid ha
          have HI := Lib.hid hi'
          have HO := Lib.hid ho'
          have HT := Lib.hid ht'
          have HL6 := Lib.hid hL6
          have HLL := Lib.hid hLl
          have i8 : (j : Int) < 8 := by omega
          clear ha hi' ho' ht' h1 e1 e2 e3 l0 l60 hS hI hT hO hLl hL6
          go_wp2_with fail
          refine HA.out.mono ?_
          rintro e w3 ⟨rfl, hm, hk⟩
          have HM3 := Lib.hid hm
          have HB3 := Lib.hid (HB.out.trans (hk.below (B := w.heap.size) HB.out.size (fun i hi => by subst hi; exact HP.out)))
          clear hm hk HA
          go_wp2_with fail
          refine ⟨⟨j + 1, by omega, by go_num, Lib.hid ⟨_, _, HM3.out, HI.out, HT.out.mono (by omega), HO.out, ?_, ?_⟩, HB3⟩, by simp [intOf]; omega⟩
          · rw [List.length_append, HLL.out]; rfl
          · intro l hl
            rcases List.mem_append.1 hl with hl | hl
            · exact HL6.out l hl
            · obtain rfl := List.mem_singleton.1 hl; rfl
        · obtain rfl : j = 8 := by omega
          have h1 : addE L k60 0 = 3 := by unfold addE; rw [if_neg (fun h => h may60), l0, if_pos (by omega)]
          have ha := ladd_any p b1 b2 S [] 1 u1 L 8 k60 k60_ok 0 (by unfold W64; decide) wr hS (hT.toSmall (by omega)) hT.nd hI (by omega) (by decide)
          unfold addI addS at ha
          rw [h1, if_neg (by decide), if_neg (by decide)] at ha
          unfold sV Ls.val at ha
          have HA := Lib.hid ha
          have HI := Lib.hid (show LS S 1 L 8 from hI)
          have HO := Lib.hid hO
          have HT := Lib.hid hT
          have HL60 := Lib.hid l60
          have HLL := Lib.hid hLl
          clear ha h1 l0 l60 hS hI hT hO hLl hL6 hlt hj
          go_wp2_with fail
          refine HA.out.mono ?_
          rintro e w3 ⟨rfl, hm, hk⟩
          have HM3 := Lib.hid hm
          have HB3 := Lib.hid (HB.out.trans (hk.below (B := w.heap.size) HB.out.size (fun i hi => by subst hi; exact HP.out)))
          clear hm hk HA
          have hok : Ls.Ok ⟨0, 1, 86460, 0, 0⟩ := ⟨by decide, by unfold W64; decide, by unfold W64; decide, by unfold W64; decide, by unfold W64; decide⟩
          have h1 : addE L ⟨0, 1, 86460, 0, 0⟩ 60 = 0 := by unfold addE; rw [if_neg (fun h => h (by decide +kernel)), HL60.out, if_neg (by decide)]
          have ha := ladd_any p b1 b2 S [] 1 u1 L 8 ⟨0, 1, 86460, 0, 0⟩ hok 60 (by unfold W64; decide) w3 HM3.out (HT.out.toSmall (by decide)) HT.out.nd HI.out (by have := HLL.out; omega) (by decide)
          have hi' := HI.out.addS HT.out.nd u1 ⟨0, 1, 86460, 0, 0⟩ hok (by decide) 60
          have ho' := HO.out.addS HT.out.nd L 8 ⟨0, 1, 86460, 0, 0⟩ 60
          have ht' := HT.out.addS 1 L 8 ⟨0, 1, 86460, 0, 0⟩ 60
          have e1 : addI L 8 ⟨0, 1, 86460, 0, 0⟩ 60 = 9 := by unfold addI; rw [h1, if_pos rfl]; rfl
          have e2 : addL L 8 ⟨0, 1, 86460, 0, 0⟩ 60 = [⟨9, 1, 86460, 0, 0⟩] := by unfold addL; rw [h1, if_pos rfl, HL60.out]; rfl
          have e3 : addN L 8 ⟨0, 1, 86460, 0, 0⟩ 60 = 9 := by unfold addN; rw [h1, if_pos rfl]; rfl
          rw [h1, e1] at ha
          rw [e2, e3] at hi'
          generalize addS S 1 L 8 ⟨0, 1, 86460, 0, 0⟩ 60 = S' at *
          unfold sV Ls.val at ha
          have HA := Lib.hid ha
          have HI' := Lib.hid hi'
          have HT' := Lib.hid ht'
          have H2 := Lib.hid (only_two ht'.nd ho' hi' (by decide))
          clear ha hi' ho' ht' h1 e1 e2 e3 hok
          go_wp2_with fail
          refine HA.out.mono ?_
          rintro e w4 ⟨rfl, hm, hk⟩
          have HM4 := Lib.hid hm
          have HB4 := Lib.hid (HB3.out.trans (hk.below (B := w.heap.size) HB3.out.size (fun i hi => by subst hi; exact HP.out)))
          have hr := range_any p (-1) b1 b2 S' [] (.slice none 0 0) (.slice none 0 0) ByteArray.empty ByteArray.empty w4 hm (BS.nil _) (BS.nil _) (HT'.out.toSmall (by decide)) HT'.out.nd
          unfold pV at hr
          have HR := Lib.hid hr
          clear hm hk HA hr
          go_wp2_with fail
          refine HR.out.mono ?_
          rintro e w5 ⟨v5, rfl, hps, hb⟩
          obtain ⟨a5, c5', rfl⟩ : ∃ a c, v5 = .slice a 2 c := by
            obtain ⟨xs, h, _⟩ := hps
            rw [H2.out] at h
            rcases h.2 with ⟨_, h0⟩ | ⟨g, cap, cur, he, _⟩
            · omega
            · exact ⟨_, _, he⟩
          have HM5 := Lib.hid (HM4.out.below hb)
          have HB5 := Lib.hid (HB4.out.trans (hb.mono HB4.out.size))
          clear hps hb HR
          have hd := ldrop_any p b1 b2 (-1) S' [] 1 3 u1 (by unfold U32; decide) _ 9 w5 HM5.out HT'.out.nd HI'.out
          have d1 : dropE [⟨9, 1, 86460, 0, 0⟩] 3 = 44 := by decide +kernel
          rw [d1] at hd
          have hi2 := HI'.out.del HT'.out.nd u1 (i := 3) (by unfold U32; decide)
          have d2 : ([⟨9, 1, 86460, 0, 0⟩] : List Ls).filter (fun l => decide (l.id ≠ 3)) = [⟨9, 1, 86460, 0, 0⟩] := by decide +revert
          rw [d2] at hi2
          unfold sV at hd
          have HD := Lib.hid hd
          have HI2 := Lib.hid hi2
          have HT2 := Lib.hid (HT'.out.del (lk 1 3))
          clear hd hi2 d1 d2
          go_wp2_with fail
          refine HD.out.mono ?_
          rintro e w6 ⟨rfl, hm, hk⟩
          have HM6 := Lib.hid hm
          have HB6 := Lib.hid (HB5.out.trans (hk.below (B := w.heap.size) HB5.out.size (fun i hi => by subst hi; exact HP.out)))
          clear hm hk HD
          have hd := ldrop_any p b1 b2 (-1) _ [] 1 9 u1 (by unfold U32; decide) _ 9 w6 HM6.out HT2.out.nd HI2.out
          have d1 : dropE [⟨9, 1, 86460, 0, 0⟩] 9 = 0 := by decide +kernel
          rw [d1] at hd
          unfold sV at hd
          have HD := Lib.hid hd
          clear hd d1
          go_wp2_with (first
            | (go_at_call 13
               refine HD.out.mono ?_
               rintro e w7 ⟨rfl, hm, hk⟩
               have HB7 := Lib.hid (HB6.out.trans (hk.below (B := w.heap.size) HB6.out.size (fun i hi => by subst hi; exact HP.out)))
               clear hm hk)
            | (go_at_call 20
               refine (HG.out _).mono ?_
               rintro e wf ⟨rfl, hb⟩
               have HBF := Lib.hid (HB7.out.trans (hb.mono HB7.out.size))
               clear hb))
          go_ret
          exact ⟨rfl, HBF.out⟩
end Go.Proofs.Ytidppalhjknlfaa
