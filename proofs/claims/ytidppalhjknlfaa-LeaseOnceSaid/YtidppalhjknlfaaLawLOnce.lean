/- The walk of LeaseOnce. -/
import Derived.Test.YtidppalhjknlfaaLawLHeld
import Derived.Test.YtidppalhjknlfaaLawLPlays
import Derived.Test.YtidppalhjknlfaaOnceLaw
import Derived.Test.YtidppalhjknlfaaRange2
import Derived.Deep.DeepCutAuto
namespace Go.Proofs.Ytidppalhjknlfaa
open Go.RowKit
set_option maxRecDepth 100000
set_option linter.unusedVariables false
set_option linter.unusedSimpArgs false
set_option maxHeartbeats 4000000
theorem uUm : Try.prog.underlying 51 = some (.map 22 2) := by kernel_rfl
theorem uU32 : Try.prog.underlying 22 = some (.int .u32) := by kernel_rfl
theorem zI64 (w : World) : (zeroValue 2).run Try.prog w = .ok (.int .i64 0) w := by kernel_rfl
def valOf' (e : MapEntry) : Int := match e.val with | .int _ v => v | _ => 0
theorem ukvs_vals : ∀ {es : List MapEntry} {l : UM}, UKVs es l → es.map valOf' = l.map (·.2)
  | [], l, h => by
    have : l = [] := by unfold UKVs at h; simpa using h.symm
    subst this; rfl
  | e :: es, l, h => by
    obtain ⟨p, r, rfl, h1, h2, h3⟩ := h.cons
    simp only [List.map_cons, valOf', h2]
    exact congrArg (p.2 :: ·) (ukvs_vals h3)
theorem ukvs_entry : ∀ {es : List MapEntry} {l : UM}, UKVs es l → ∀ e ∈ es, ∃ k v, e.key = .int .u32 k ∧ e.val = .int .i64 v
  | [], l, h, e, he => by simp at he
  | e0 :: es, l, h, e, he => by
    obtain ⟨p, r, rfl, h1, h2, h3⟩ := h.cons
    rcases List.mem_cons.1 he with rfl | he
    · exact ⟨_, _, h1, h2⟩
    · exact ukvs_entry h3 e he
/-- a loop over the map, under way -/
structure OI (w3 : World) (mb r c : Nat) (es : Array MapEntry) (w : World) (vis : List MapEntry) : Prop where
  iter : w.heap[r]? = some (.mapIter (some mb) c (vis.map (·.born)).toArray c)
  sub : ∀ e ∈ vis, e ∈ es.toList
  nd : (vis.map (·.born)).Nodup
  keep : Below w3.heap.size w3 w
def cnt (now : Int) (vis : List MapEntry) : Nat := (vis.filter fun e => decide (now < valOf' e)).length
theorem cnt_snoc (now : Int) (vis : List MapEntry) (e : MapEntry) : cnt now (vis ++ [e]) = cnt now vis + (if now < valOf' e then 1 else 0) := by
  unfold cnt
  rw [List.filter_append, List.length_append]
  by_cases h : now < valOf' e <;> simp [h]
theorem cnt_all {es vis : List MapEntry} {E : UM} (hp : vis.Perm es) (hk : UKVs es E) (now : Int) : cnt now vis = (E.filter fun p => decide (now < p.2)).length := by
  unfold cnt
  rw [(hp.filter _).length_eq]
  have h1 : (es.filter fun e => decide (now < valOf' e)).length = ((es.map valOf').filter fun v => decide (now < v)).length := by
    rw [List.filter_map, List.length_map]; rfl
  have h2 : (E.filter fun p => decide (now < p.2)).length = ((E.map (·.2)).filter fun v => decide (now < v)).length := by
    rw [List.filter_map, List.length_map]; rfl
  rw [h1, h2, ukvs_vals hk]
theorem cnt_le {es vis : List MapEntry} (hv : (vis.map (·.born)).Nodup) (hs : ∀ e ∈ vis, e ∈ es) (now : Int) : cnt now vis ≤ cnt now es := by
  have hn : vis.Nodup := (List.pairwise_map.1 hv).imp (fun {p q} h e => h (by rw [e]))
  unfold cnt
  refine List.Nodup.length_le_of_subset (hn.sublist List.filter_sublist) fun e he => ?_
  obtain ⟨h1, h2⟩ := List.mem_filter.1 he
  exact List.mem_filter.2 ⟨hs e h1, h2⟩
/-- what all is behind j acts -/
def LO (w : World) (p b1 b2 mb : Nat) (j : Nat) (now last : Int) : Prop := ∃ S L E, MemIs w p (-1) b1 b2 S [] ∧ LS S 1 L last ∧ St (2 * j) S ∧ UMapAt w mb E ∧ OC E L now ∧ last ≤ j ∧ L.length ≤ 8 ∧ 0 ≤ now ∧ now ≤ 68719476736
theorem lonce_any (lv : Value) (l : List A20) (w : World) (hL : AS20 w lv l) :
    Calls Try.prog 4 #[lv] w fun e w' => e = .returned (.bool true) ∧ Below w.heap.size w w' := by
  obtain ⟨la, lc, rfl⟩ : ∃ a c, lv = .slice a l.length c := by obtain ⟨a, c, h, _⟩ := hL; exact ⟨a, c, h⟩
  have HG := Lib.hid goes20
  have HL := Lib.hid hL
  have u1 : U32 1 := by unfold U32; decide
  clear hL
  by_cases hll : 100 < l.length
  · have i0 : (100 : Int) < (l.length : Int) := by omega
    clear hll
    go_enter Try.func4, Try.ntmps4
    go_wp2_with fail
    go_ret
    exact ⟨rfl, Below.refl _ _⟩
  · have i0 : ¬ (100 : Int) < (l.length : Int) := by omega
    have hmm := @run_makeMap Try.prog
    go_enter Try.func4, Try.ntmps4
    go_wp2_with fail
    refine (new_any (-1) _).mono ?_
    rintro e w2 ⟨p, b1, b2, rfl, hp, hb1, hb2, hm, hb⟩
    have HS2 := Lib.hid (show LO (w2.alloc (.map #[] 0)) p b1 b2 w2.heap.size 0 0 0 from
      ⟨[], [], [], hm.below ((Below.refl _ _).alloc (Nat.le_refl _) _), LS.nil 1, St.nil, UMapAt.made w2, OC.nil 0, by simp, by simp, by decide, by decide⟩)
    have HB2 := Lib.hid (hb.alloc hb.size (.map #[] 0))
    have HP := Lib.hid hb1
    have hq : w.heap.size ≤ w2.heap.size := hb.size
    have HNE := Lib.hid (show (b1 ≠ w2.heap.size ∧ b2 ≠ w2.heap.size) ∧ p ≠ w2.heap.size by
      obtain ⟨es, c, h1, _⟩ := hm.now
      obtain ⟨es', c', h2, _⟩ := hm.was
      have := blk_lt h1
      have := blk_lt h2
      have := blk_lt hm.blk
      omega)
    clear hm hb hp hb1 hb2
    unfold pV
    go_wp2_with fail
    clear hmm
    go_loopw [4, 5, 7] (fun nv lv i wr => ∃ (j : Nat) (now last : Int), j ≤ l.length ∧ i = .int .i64 j ∧ nv = .int .i64 now ∧ lv = .int .u32 last ∧ Hid (LO wr p b1 b2 w2.heap.size j now last) ∧ Hid (Below w.heap.size w wr)) (fun _ _ i _ => l.length - (intOf i).toNat)
    case atStart => exact ⟨0, 0, 0, by omega, rfl, rfl, rfl, HS2, HB2⟩
    case round =>
      clear HS2 HB2
      obtain ⟨j, now, last, hj, rfl, rfl, rfl, HH, HB3⟩ := hrel
      obtain ⟨S, L, E, hS, hI, hT, hE, hO, hla, hlen, hn0, hn1⟩ := HH.out
      by_cases hlt : j < l.length
      · obtain ⟨y, hy⟩ : ∃ y, l[j]? = some y := ⟨_, List.getElem?_eq_getElem hlt⟩
        obtain ⟨lb, lo, hlb, hok, c0, c1, c2, c3, c4, c5, c6⟩ := (HL.out.below HB3.out).at_ hy
        subst hlb
        have i2 : (j : Int) < (l.length : Int) := by omega
        obtain ⟨W, hW⟩ : ∃ W, W = wr.alloc (.cells #[.int .u8 y.doo, .int .u32 y.l.id, .int .i64 y.l.units, .int .i64 y.l.exp, .int .i64 y.l.day, .int .i64 y.l.month, .int .i64 y.now] 33) := ⟨_, rfl⟩
        have hbW : Below wr.heap.size wr W := by rw [hW]; exact (Below.refl _ _).alloc (Nat.le_refl _) _
        have hbox : Box20 W wr.heap.size y := by rw [hW]; exact blk_new wr _
        have hqr : w2.heap.size < wr.heap.size := hE.lt
        have hbr : b1 < wr.heap.size := by obtain ⟨es, c, h1, _⟩ := hS.now; exact blk_lt h1
        have HBX := Lib.hid hbox
        have HSZ := Lib.hid (show p < wr.heap.size from blk_lt hS.blk)
        have HB2L := Lib.hid (show b2 < wr.heap.size by obtain ⟨es, c, h1, _⟩ := hS.was; exact blk_lt h1)
        have HSW := Lib.hid (hS.below hbW)
        have HEW := Lib.hid (hE.keep (Keep.ofBelow hbW (fun _ => False)) (fun h => h))
        have HI := Lib.hid hI
        have HT := Lib.hid hT
        have HO := Lib.hid hO
        have HOK := Lib.hid hok
        have HBW := Lib.hid (HB3.out.trans (hbW.mono HB3.out.size))
        have HLA := Lib.hid hla
        have HLN := Lib.hid hlen
        have hw3 : w.heap.size ≤ wr.heap.size := HB3.out.size
        have HOD := hok.d
        have a0 := and_rng y.now 1023 (by decide)
        have x0 := and_rng y.l.exp 4095 (by decide)
        obtain ⟨e0, e1, e2, e3, e4, e5, e6⟩ := hbox.cells
        rw [hW] at e0 e1 e2 e3 e4 e5 e6
        clear hS hI hT hE hO hbW hbox hy HH hok hla hlen
        go_upto_region 11 with fail
        rw [← hW] at e0 e1 e2 e3 e4 e5 e6 ⊢
        clear hW c0 c1 c2 c3 c4 c5 c6
        have a1 : 0 ≤ bits BinOp.and IntKind.i64 y.now 1023 := a0.1
        have a2 : bits BinOp.and IntKind.i64 y.now 1023 ≤ 1023 := a0.2
        have x1 : 0 ≤ bits BinOp.and IntKind.i64 y.l.exp 4095 := x0.1
        have x2 : bits BinOp.and IntKind.i64 y.l.exp 4095 ≤ 4095 := x0.2
        have s1 : wrap64 (now + bits BinOp.and IntKind.i64 y.now 1023) = now + bits BinOp.and IntKind.i64 y.now 1023 := by unfold wrap64; omega
        clear a0 x0
        go_upto_region 12 with fail
        obtain ⟨N, hN⟩ : ∃ N, N = min (now + bits BinOp.and IntKind.i64 y.now 1023) 68719476736 := ⟨_, rfl⟩
        have hN1 : now ≤ N ∧ 0 ≤ N ∧ N ≤ 68719476736 := by omega
        rw [← hN]
        clear hN s1 a1 a2
        obtain ⟨X, hX⟩ : ∃ X, X = bits BinOp.and IntKind.i64 y.l.exp 4095 := ⟨_, rfl⟩
        rw [← hX] at x1 x2
        have s2 : wrap64 (N + X) = N + X := by unfold wrap64; omega
        have f3 := blk_frozen HBX.out 3
        have hX' := hX.symm
        clear hX
        go_upto_region 13 with fail
        obtain ⟨z, hz⟩ : ∃ z : A20, z = ⟨y.doo, ⟨y.l.id, y.l.units, N + X, y.l.day, y.l.month⟩, y.now⟩ := ⟨_, rfl⟩
        obtain ⟨W5, hW5⟩ : ∃ W5, W5 = W.setCell ⟨wr.heap.size, 3, none⟩ (.int .i64 (N + X)) := ⟨_, rfl⟩
        rw [← hW5]
        have hk5 : Keep (fun i => i = wr.heap.size) W W5 := by rw [hW5]; exact (Keep.refl (fun i => i = wr.heap.size) W).setCell (p := ⟨wr.heap.size, 3, none⟩) (.inl rfl) _
        have hbz : Box20 W5 wr.heap.size z := by rw [hW5, hz]; exact blk_setCell HBX.out 3 _
        have hlp : p < wr.heap.size := HSZ.out
        have HM5 := Lib.hid (HSW.out.keep hk5 (by omega) (by omega) (by have := HB2L.out; omega))
        have HE5 := Lib.hid (HEW.out.keep hk5 (by omega))
        have HB5 := Lib.hid (HBW.out.trans (hk5.below (B := w.heap.size) HBW.out.size (fun i hi => by omega)))
        have HBZ := Lib.hid hbz
        have HZO := Lib.hid (show z.l.Ok by rw [hz]; exact ⟨HOK.out.l.id, HOK.out.l.units, by show W64 (N + X); unfold W64; omega, HOK.out.l.day, HOK.out.l.month⟩)
        have HON := Lib.hid (HO.out.later hN1.1)
        have hzd : z.doo = y.doo := by rw [hz]
        have hzd2 : 0 ≤ z.doo ∧ z.doo ≤ 255 := by rw [hzd]; exact HOD
        clear e0 e1 e2 e3 e4 e5 e6 f3 s2 x1 x2 hX' hz hW5 hk5 HBX HSW HEW HBW HO HOK hzd HOD
        obtain ⟨e0, e1, e2, e3, e4, e5, e6⟩ := hbz.cells
        clear hbz
        obtain ⟨d, hd⟩ : ∃ d, z.doo % 4 = d := ⟨_, rfl⟩
        have hdm : z.doo.tmod 4 = d := by rw [Int.tmod_eq_emod_of_nonneg (by omega)]; exact hd
        have hl0 := HI.out.lst
        have hla := HLA.out
        have h20 : L.length ≤ 1000000 := by have := HLN.out; omega
        clear hd hzd2
        go_upto_if 54 with fail
        go_cut [5] (fun s5 wx => ∃ last' : Int, s5 = .int .u32 last' ∧ Hid (LO wx p b1 b2 w2.heap.size (j + 1) N last') ∧ Hid (Below w.heap.size w wx))
        case first =>
          by_cases h2 : d = 2
          · subst h2
            have hdr := ldrop_any p b1 b2 (-1) S [] 1 z.l.id u1 HZO.out.id L last W5 HM5.out HT.out.nd HI.out
            obtain ⟨D, hD⟩ : ∃ D, D = dropE L z.l.id := ⟨_, rfl⟩
            rw [← hD] at hdr
            have hto := HON.out.told z.l.id
            rw [← hD] at hto
            have hDv : D = 0 ∨ D = 44 := by rw [hD]; unfold dropE; split <;> simp
            unfold sV at hdr
            have HDR := Lib.hid hdr
            have HI' := Lib.hid (HI.out.del HT.out.nd u1 HZO.out.id)
            have HT' := Lib.hid (HT.out.del (lk 1 z.l.id))
            have HO' := Lib.hid (HON.out.drop z.l.id)
            have HL' := Lib.hid (show (dropL L z.l.id).length ≤ 8 from Nat.le_trans (List.length_filter_le _ _) HLN.out)
            obtain ⟨o, ho⟩ : ∃ o, o = UM.get z.l.id E := ⟨_, rfl⟩
            rw [← ho] at hto
            have HTO := Lib.hid hto
            have HOE := Lib.hid ho
            clear hD hto hdr ho
            go_wp2_with fail
            refine HDR.out.mono ?_
            rintro e w6 ⟨rfl, hm, hk⟩
            have HM6 := Lib.hid hm
            have hE6 := HE5.out.keep hk (fun e => HNE.out.1.1 e.symm)
            have hbz6 := HBZ.out.keep hk (fun e => by omega)
            have HB6 := Lib.hid (HB5.out.trans (hk.below (B := w.heap.size) HB5.out.size (fun i hi => by subst hi; exact HP.out)))
            clear hm hk HDR e0 e1 e2 e3 e4 e5 e6
            obtain ⟨e0, e1, e2, e3, e4, e5, e6⟩ := hbz6.cells
            have look := hE6.lookup_ok (P := Try.prog) (t := 51) uUm uU32 zI64 z.l.id
            unfold umapGetV at look
            rw [← HOE.out] at look
            obtain ⟨W7, hW7⟩ := Classical.axiomOfChoice (fun ty : TypeId => hE6.delete (P := Try.prog) (t := 51) (ty := ty) uUm uU32 z.l.id)
            have hdel := fun ty => (hW7 ty).1
            have HW7 := Lib.hid (fun ty => (hW7 ty).2)
            clear hE6 hbz6 hW7
            have hfin : ∀ ty, ∃ last' : Int, Value.int .u32 last = .int .u32 last' ∧ Hid (LO (W7 ty) p b1 b2 w2.heap.size (j + 1) N last') ∧ Hid (Below w.heap.size w (W7 ty)) := fun ty => by
              obtain ⟨g1, g2⟩ := HW7.out ty
              have gk := g2 w6 (Keep.refl _ _)
              exact ⟨last, rfl, Lib.hid ⟨_, _, _, HM6.out.keep gk HNE.out.2 HNE.out.1.1 HNE.out.1.2, HI'.out, HT'.out.mono (by omega), g1, HO'.out, by omega, HL'.out, hN1.2.1, hN1.2.2⟩, Lib.hid (HB6.out.trans (gk.below (B := w.heap.size) HB6.out.size (fun i hi => by subst hi; exact hq)))⟩
            have HFIN := Lib.hid hfin
            clear hfin
            cases o with
            | none =>
              have hD44 : D = 44 := by
                rcases hDv with h | h
                · obtain ⟨v, hv⟩ := HTO.out.1 h; cases hv
                · exact h
              subst hD44
              simp only [Option.getD_none, Option.isSome_none] at look
              clear hDv
              go_wp2_with fail
              go_meet
              exact HFIN.out _
            | some v =>
              simp only [Option.getD_some, Option.isSome_some] at look
              rcases hDv with h | h
              · subst h
                go_wp2_with fail
                go_meet
                exact HFIN.out _
              · subst h
                have hnv := HTO.out.2 (by decide) v rfl
                have hnv2 : ¬ v > N := by omega
                go_wp2_with fail
                go_meet
                exact HFIN.out _
          · have hda : (d == 2) = false := beq_eq_false_iff_ne.2 h2
            have hA := ladd_any p b1 b2 S [] 1 u1 L last z.l HZO.out N (by unfold W64; omega) W5 HM5.out (HT.out.toSmall (by omega)) HT.out.nd HI.out h20 (by omega)
            have hI' := HI.out.addS HT.out.nd u1 z.l HZO.out (by omega) N
            have hT' := HT.out.addS 1 L last z.l N
            have hL' := addL_len (last := last) (l := z.l) (at_ := N) HLN.out
            have hEv : addE L z.l N = 0 ∨ (addE L z.l N ≠ 0) := by omega
            rcases hEv with hE0 | hE0
            · have q1 : addI L last z.l N = last + 1 := by unfold addI; rw [if_pos hE0]
              have q2 : addL L last z.l N = live N L ++ [{ z.l with id := last + 1 }] := by unfold addL; rw [if_pos hE0]
              have q3 : addN L last z.l N = last + 1 := by unfold addN; rw [if_pos hE0]
              have hO' := HON.out.add (last := last) (fun l hl => (HI.out.ok l hl).2.2) z.l
              rw [hE0, q1] at hA
              rw [q2, q3] at hI'
              rw [q2] at hL'
              unfold sV Ls.val at hA
              have HA := Lib.hid hA
              have HI' := Lib.hid hI'
              have HT' := Lib.hid hT'
              have HL' := Lib.hid hL'
              have HO' := Lib.hid hO'
              clear hA hI' hT' hL' hE0 q1 q2 q3 hO'
              go_wp2_with fail
              refine HA.out.mono ?_
              rintro e w6 ⟨rfl, hm, hk⟩
              have HM6 := Lib.hid hm
              have hE6 := HE5.out.keep hk (fun e => HNE.out.1.1 e.symm)
              have hbz6 := HBZ.out.keep hk (fun e => by omega)
              have HB6 := Lib.hid (HB5.out.trans (hk.below (B := w.heap.size) HB5.out.size (fun i hi => by subst hi; exact HP.out)))
              clear hm hk HA e0 e1 e2 e3 e4 e5 e6
              obtain ⟨e0, e1, e2, e3, e4, e5, e6⟩ := hbz6.cells
              obtain ⟨W7, hup, g1, g2⟩ := hE6.update (P := Try.prog) (t := 51) uUm uU32 (last + 1) z.l.exp
              have gk := g2 w6 (Keep.refl _ _)
              have HFIN := Lib.hid (show ∃ last' : Int, Value.int .u32 (last + 1) = .int .u32 last' ∧ Hid (LO W7 p b1 b2 w2.heap.size (j + 1) N last') ∧ Hid (Below w.heap.size w W7) from
                ⟨last + 1, rfl, Lib.hid ⟨_, _, _, HM6.out.keep gk HNE.out.2 HNE.out.1.1 HNE.out.1.2, HI'.out, HT'.out.mono (by omega), g1, HO'.out, by omega, HL'.out, hN1.2.1, hN1.2.2⟩, Lib.hid (HB6.out.trans (gk.below (B := w.heap.size) HB6.out.size (fun i hi => by subst hi; exact hq)))⟩)
              have i9 : ¬ (last + 1 ≤ last) := by omega
              clear hE6 hbz6 g1 g2 gk
              go_wp2_with fail
              go_meet
              exact HFIN.out
            · have q2 : addL L last z.l N = L := by unfold addL; rw [if_neg hE0]
              have q3 : addN L last z.l N = last := by unfold addN; rw [if_neg hE0]
              rw [q2, q3] at hI'
              obtain ⟨D, hD⟩ : ∃ D, D = addE L z.l N := ⟨_, rfl⟩
              obtain ⟨I, hI2⟩ : ∃ I, I = addI L last z.l N := ⟨_, rfl⟩
              rw [← hD] at hE0
              rw [← hD, ← hI2] at hA
              unfold sV Ls.val at hA
              have HA := Lib.hid hA
              have HI' := Lib.hid hI'
              have HT' := Lib.hid hT'
              have hde : (D == 0) = false := beq_eq_false_iff_ne.2 hE0
              clear hA hI' hT' hL' q2 q3 hD hI2
              go_wp2_with fail
              refine HA.out.mono ?_
              rintro e w6 ⟨rfl, hm, hk⟩
              have HM6 := Lib.hid hm
              have HE6 := Lib.hid (HE5.out.keep hk (fun e => HNE.out.1.1 e.symm))
              have HB6 := Lib.hid (HB5.out.trans (hk.below (B := w.heap.size) HB5.out.size (fun i hi => by subst hi; exact HP.out)))
              clear hm hk HA e0 e1 e2 e3 e4 e5 e6
              go_wp2_with fail
              go_meet
              exact ⟨last, rfl, Lib.hid ⟨_, _, _, HM6.out, HI'.out, HT'.out.mono (by omega), HE6.out, HON.out, by omega, HLN.out, hN1.2.1, hN1.2.2⟩, HB6⟩
        case rest =>
          obtain ⟨last', rfl, HH2, HBX2⟩ := hcut
          obtain ⟨S', L', E', hS, hI, hT, hE, hO, hla', hlen', hn0', hn1'⟩ := HH2.out
          have hV := llive_any p b1 b2 (-1) S' [] 1 u1 L' last' N wc hS (hT.toSmall (by omega)) hT.nd hI (by omega)
          have hcn := hO.count hI.up
          obtain ⟨M, hM⟩ : ∃ M, M = live N L' := ⟨_, rfl⟩
          have hMl : M.length ≤ 8 := by rw [hM]; exact live_len hlen'
          rw [← hM] at hV hcn
          have hgl : ∀ (i : Nat) x, M[i]? = some x → getR L' x.id N = some x ∧ UM.get x.id E' = some x.exp := fun i x hx => by
            rw [hM] at hx
            exact ⟨get_live hI.up hx, hO.a x (List.mem_filter.1 (List.mem_of_getElem? hx)).1⟩
          have HGL := Lib.hid hgl
          have HCN := Lib.hid hcn
          unfold sV at hV
          have HV := Lib.hid hV
          have HS := Lib.hid hS
          have HI2 := Lib.hid hI
          have HT2 := Lib.hid hT
          have HE2 := Lib.hid hE
          have HO2 := Lib.hid hO
          have HML := Lib.hid hMl
          have HLL := Lib.hid (And.intro hla' hlen')
          have hqc : w2.heap.size < wc.heap.size := hE.lt
          clear hV hS hI hT hE hO hgl hcn hM hMl HH2 HON HM5 HE5 HB5 HBZ HZO HI HT HLA HLN hla' hlen' hl0 hla h20 hdm e0 e1 e2 e3 e4 e5 e6 hlp
          go_wp2_with fail
          refine HV.out.mono ?_
          rintro e w3 ⟨v3, rfl, hr, hb⟩
          obtain ⟨a3, c3', rfl, _, _, _⟩ := hr.shape
          have HR3 := Lib.hid hr
          have HS3 := Lib.hid (HS.out.below hb)
          have hE3 := HE2.out.keep (Keep.ofBelow hb (fun _ => False)) (fun h => h)
          have HB3x := Lib.hid (HBX2.out.trans (hb.mono HBX2.out.size))
          obtain ⟨es, c, hbm, hkv, hpw, hborn⟩ := hE3
          have hnd : (es.toList.map (·.born)).Nodup := hpw.imp (fun h => Nat.ne_of_lt h)
          have hrg := run_range_map (P := Try.prog) w3 51 22 2 w2.heap.size es c uUm hbm
          have hq3 : w2.heap.size < w3.heap.size := blk_lt hbm
          have HBM := Lib.hid hbm
          have HKV := Lib.hid hkv
          have HBN := Lib.hid hborn
          have HND := Lib.hid hnd
          have HE3 := Lib.hid (show UMapAt w3 w2.heap.size E' from ⟨es, c, hbm, hkv, hpw, hborn⟩)
          clear hr hb hbm hkv hpw hborn hnd HV HS HE2 HBX2
          go_wp2_with fail
          go_loopw [16] (fun s wr2 => ∃ vis, s = .int .i64 (cnt N vis : Nat) ∧ Hid (OI w3 w2.heap.size w3.heap.size c es wr2 vis)) (fun _ wr2 => iterLeft (es.toList.length + 1) w3.heap.size wr2)
          case atStart => exact ⟨[], rfl, Lib.hid ⟨blk_new _ _, by simp, by simp, (Below.refl _ _).alloc (Nat.le_refl _) _⟩⟩
          case round =>
            clear hrg
            obtain ⟨vis, rfl, HR⟩ := hrel
            obtain ⟨wo, hwo⟩ : ∃ wo : World, wo = w3 := ⟨_, rfl⟩
            have hbw : wr.heap[w2.heap.size]? = some (.map es c) := (Keep.ofBelow HR.out.keep (fun _ => False)).blk HBM.out (fun h => h)
            have hce := cnt_all (List.Perm.refl es.toList) HKV.out N
            rw [HCN.out] at hce
            rcases range_step (P := Try.prog) wr w3.heap.size w2.heap.size c _ es HR.out.iter hbw HBN.out HND.out with ⟨h0, h1⟩ | ⟨e, w4, h1, h2, h3, h4, h5, h6⟩
            · have hp : vis.Perm es.toList := by
                refine vis_perm HND.out HR.out.sub HR.out.nd fun x hx => ?_
                have := h0
                unfold leftOf at this
                rw [Array.size_eq_zero_iff, Array.filter_eq_empty_iff] at this
                have := this x (by simpa using hx)
                simpa using this
              have hcv := cnt_all hp HKV.out N
              rw [HCN.out] at hcv
              have HBE := Lib.hid HR.out.keep
              have hml := HML.out
              rw [hcv]
              have i8 : ¬ ((M.length : Int) > 8) := by omega
              clear HR hp h0 hbw hcv hce hwo
              have HSE := Lib.hid (HS3.out.below HBE.out)
              have HEE := Lib.hid (HE3.out.keep (Keep.ofBelow HBE.out (fun _ => False)) (fun h => h))
              have HRE := Lib.hid (HR3.out.below HBE.out)
              have HBX3 := Lib.hid (HB3x.out.trans (HBE.out.mono HB3x.out.size))
              obtain ⟨we, hwe⟩ : ∃ we : World, we = wr := ⟨_, rfl⟩
              rw [← hwe] at HSE HEE HRE HBX3 h1 ⊢
              clear hwe HBE
              go_wp2_with fail
              go_loopw [19] (fun s wr3 => ∃ k : Nat, k ≤ M.length ∧ s = .int .i64 k ∧ Hid (Below we.heap.size we wr3)) (fun s _ => M.length - (intOf s).toNat)
              case atStart => exact ⟨0, by omega, rfl, Lib.hid (Below.refl _ _)⟩
              case round =>
                obtain ⟨k, hk, rfl, HBK⟩ := hrel
                by_cases hlk : k < M.length
                · obtain ⟨x, hx⟩ : ∃ x, M[k]? = some x := ⟨_, List.getElem?_eq_getElem hlk⟩
                  obtain ⟨g, off, cap', he, c0, c1, c2, c3, c4⟩ := (HRE.out.below HBK.out).at_ hx
                  injection he with he n1 n2
                  subst he; subst n2
                  clear n1
                  obtain ⟨hgr, hge⟩ := HGL.out k x hx
                  have hgt := lget_any p b1 b2 (-1) S' [] 1 u1 x.id L' last' N wr (HSE.out.below HBK.out) (HT2.out.toSmall (by omega)) HT2.out.nd HI2.out (by have := HLL.out.2; omega)
                  rw [hgr] at hgt
                  have hv1 : (getV (some x)).val = .agg #[.int .u32 x.id, .int .i64 x.units, .int .i64 x.exp, .int .i64 x.day, .int .i64 x.month] := rfl
                  have hv2 : getE (some x) = 0 := rfl
                  rw [hv1, hv2] at hgt
                  unfold sV at hgt
                  have HGT := Lib.hid hgt
                  have HGE := Lib.hid hge
                  have HX := Lib.hid hx
                  have i9 : (k : Int) < (M.length : Int) := by omega
                  clear hgt hv1 hv2 hgr hge hx
                  go_wp2_with fail
                  refine HGT.out.mono ?_
                  rintro e w5 ⟨rfl, hb⟩
                  have hb5 : Below we.heap.size we (w5.alloc (.cells #[.int .u32 x.id, .int .i64 x.units, .int .i64 x.exp, .int .i64 x.day, .int .i64 x.month] 31)) := (HBK.out.trans (hb.mono HBK.out.size)).alloc (Nat.le_trans HBK.out.size hb.size) _
                  have HBK5 := Lib.hid hb5
                  obtain ⟨g', off', cap'', he, d0, d1, d2, d3, d4⟩ := (HRE.out.below hb5).at_ HX.out
                  injection he with he n1 n2
                  injection he with he
                  injection he with m1 m2 m3
                  subst m1; subst m2
                  clear n1 n2 m3
                  have hE6 : UMapAt (w5.alloc (.cells #[.int .u32 x.id, .int .i64 x.units, .int .i64 x.exp, .int .i64 x.day, .int .i64 x.month] 31)) w2.heap.size E' := HEE.out.keep (Keep.ofBelow hb5 (fun _ => False)) (fun h => h)
                  have look := fun n : Nat => UMapAt.lookup (P := Try.prog) (t := 51) (show UMapAt ((w5.alloc (.cells #[.int .u32 x.id, .int .i64 x.units, .int .i64 x.exp, .int .i64 x.day, .int .i64 x.month] 31)).drewN n) w2.heap.size E' from hE6) uUm uU32 zI64 x.id
                  rw [HGE.out] at look
                  simp only [Option.getD_some] at look
                  have z0 := blk_cell (blk_new w5 (.cells #[.int .u32 x.id, .int .i64 x.units, .int .i64 x.exp, .int .i64 x.day, .int .i64 x.month] 31)) 0
                  have z1 := blk_cell (blk_new w5 (.cells #[.int .u32 x.id, .int .i64 x.units, .int .i64 x.exp, .int .i64 x.day, .int .i64 x.month] 31)) 1
                  have z2 := blk_cell (blk_new w5 (.cells #[.int .u32 x.id, .int .i64 x.units, .int .i64 x.exp, .int .i64 x.day, .int .i64 x.month] 31)) 2
                  have z3 := blk_cell (blk_new w5 (.cells #[.int .u32 x.id, .int .i64 x.units, .int .i64 x.exp, .int .i64 x.day, .int .i64 x.month] 31)) 3
                  have z4 := blk_cell (blk_new w5 (.cells #[.int .u32 x.id, .int .i64 x.units, .int .i64 x.exp, .int .i64 x.day, .int .i64 x.month] 31)) 4
                  clear hb hb5 hE6 HGT HGE c0 c1 c2 c3 c4
                  go_wp2_with fail
                  go_quiet (fail)
                  go_wp2_with fail
                  refine ⟨⟨k + 1, by omega, by go_num, Lib.hid (below_drewN HBK5.out _)⟩, by simp [intOf]; omega⟩
                · obtain rfl : k = M.length := by omega
                  have i9 : ¬ ((M.length : Int) < (M.length : Int)) := by omega
                  go_wp2_with fail
                  refine ⟨⟨j + 1, N, last', by omega, by go_num, rfl, rfl, Lib.hid ⟨S', L', E', HSE.out.below HBK.out, HI2.out, HT2.out, HEE.out.keep (Keep.ofBelow HBK.out (fun _ => False)) (fun h => h), HO2.out, HLL.out.1, HLL.out.2, hN1.2.1, hN1.2.2⟩, Lib.hid (HBX3.out.trans (HBK.out.mono HBX3.out.size))⟩, by simp [intOf]; omega⟩
            · have hnd' : ((vis ++ [e]).map (·.born)).Nodup := by
                rw [List.map_append, List.map_singleton]
                refine List.nodup_append.2 ⟨HR.out.nd, by simp, fun a ha b hb hab => ?_⟩
                obtain rfl := List.mem_singleton.1 hb
                exact h2 (by simpa [hab] using ha)
              have hsub' : ∀ x ∈ vis ++ [e], x ∈ es.toList := fun x hx => by
                rcases List.mem_append.1 hx with hx | hx
                · exact HR.out.sub x hx
                · obtain rfl := List.mem_singleton.1 hx; exact h1
              have hcl := cnt_le hnd' hsub' N
              rw [hce] at hcl
              have hml := HML.out
              have hcs := cnt_snoc N vis e
              obtain ⟨k, v, ek, ev⟩ := ukvs_entry HKV.out e h1
              have evv : valOf' e = v := by unfold valOf'; rw [ev]
              rw [ek, ev] at h3 h4
              rw [evv] at hcs
              have hit : iterLeft (es.toList.length + 1) w3.heap.size wr = es.toList.length + 1 - vis.length := by
                unfold iterLeft; rw [HR.out.iter]; simp
              have hit2 : iterLeft (es.toList.length + 1) w3.heap.size w4 = es.toList.length + 1 - (vis.length + 1) := by
                unfold iterLeft; rw [h5]; simp
              have hvl : vis.length + 1 ≤ es.toList.length := by
                have h1' : ((vis ++ [e]).map (·.born)).length ≤ (es.toList.map (·.born)).length := by
                  refine List.Nodup.length_le_of_subset hnd' ?_
                  intro x hx
                  obtain ⟨e', he', rfl⟩ := List.mem_map.1 hx
                  exact List.mem_map.2 ⟨e', hsub' e' he', rfl⟩
                simpa using h1'
              have HIT := Lib.hid hit
              have HIT2 := Lib.hid hit2
              have hoi : OI w3 w2.heap.size w3.heap.size c es w4 (vis ++ [e]) := ⟨by rw [h5]; simp, hsub', hnd', HR.out.keep.trans (h6.below HR.out.keep.size fun i hi => by omega)⟩
              have HOI := Lib.hid hoi
              clear hit hit2 hoi hnd' hsub' ek ev evv h1 h2 h5 h6 HR hbw hce hwo
              by_cases hv : N < v
              · rw [if_pos hv] at hcs
                have HCS := Lib.hid hcs
                have i9 : v > N := hv
                have w9 : wrap64 ((cnt N vis : Nat) + 1 : Int) = ((cnt N vis + 1 : Nat) : Int) := by unfold wrap64; omega
                clear hcs hv
                go_wp2_with fail
                refine ⟨⟨_, by rw [HCS.out]; first | rfl | (go_num), HOI⟩, by rw [HIT.out, HIT2.out]; omega⟩
              · rw [if_neg hv] at hcs
                have HCS := Lib.hid hcs
                have i9 : ¬ v > N := hv
                clear hcs hv
                go_wp2_with fail
                refine ⟨⟨_, by rw [HCS.out]; rfl, HOI⟩, by rw [HIT.out, HIT2.out]; omega⟩
      · have i1 : ¬ ((j : Int) < (l.length : Int)) := by omega
        go_wp2_with fail
        refine (HG.out _).mono ?_
        rintro e wf ⟨rfl, hb⟩
        have HBF := Lib.hid (HB3.out.trans (hb.mono HB3.out.size))
        clear hb
        go_wp2
        go_ret
        exact ⟨rfl, HBF.out⟩
end Go.Proofs.Ytidppalhjknlfaa
