/- The document's map (chapter 16): the walks of its Range, Scan, Number; the law's pairs. -/
import Derived.Test.YtiadoimdohnebaaMap16c
import Derived.Test.YtiadoimdohnebaaLawAborts
import Derived.Test.YtiadoimdohnebaaOrd3
namespace Go.Proofs.Ytiadoimdohnebaa
open Go.RowKit
set_option maxRecDepth 100000
set_option maxHeartbeats 2000000
set_option linter.unusedVariables false
set_option linter.unusedSimpArgs false
theorem emptyB (k : ByteArray) : k.toList.isEmpty = decide (k.size = 0) := by
  rw [toList_data]
  have h := data_len k
  cases hk : k.data.toList with
  | nil =>
    rw [hk] at h
    have h2 : k.size = 0 := h.symm
    rw [decide_eq_true h2]; rfl
  | cons a r =>
    rw [hk, List.length_cons] at h
    rw [decide_eq_false (by omega)]; rfl
theorem take_snoc {α : Type} (l : List α) (i : Nat) (x : α) (h : l[i]? = some x) : l.take (i + 1) = l.take i ++ [x] := by
  have hi := (List.getElem?_eq_some_iff.1 h).1
  rw [List.take_add_one, h]; rfl
section
variable {w : World} {B p : Nat} {vL vZ : Value} {M : M16}
theorem rrange_any (f t : ByteArray) (hX : M16Is w B p vL vZ M) (hl : M.L.length ≤ 100000) :
    Calls Try.prog 64 #[mV p, .string f, .string t] w fun e w' => ∃ v, e = .returned v ∧ QR w' v (M.L.filter fun q => selB f t q.1) ∧ Below w.heap.size w w' := by
  obtain ⟨la, lc, rfl⟩ := rowk_shape hX.rowL
  have HX := Lib.hid hX
  obtain ⟨n, hn⟩ : ∃ n, n = M.L.length := ⟨_, rfl⟩
  have HN := Lib.hid hn
  rw [← hn] at hl HX
  unfold mV
  clear hX hn
  go_enter Try.func64, Try.ntmps64
  go_wp2_with fail
  go_loopw [7, 8] (fun v s wr => ∃ i : Nat, i ≤ n ∧ s = .int .i64 i ∧ Hid (wr.ownsRow w.heap.size 117 2 v ((M.L.take i).filter fun q => selB f t q.1).length (((M.L.take i).filter fun q => selB f t q.1).flatMap pc)) ∧ Hid (Below w.heap.size w wr)) (fun _ s _ => n - (intOf s).toNat)
  case atStart => exact ⟨0, by omega, rfl, Lib.hid (World.ownsRow_nil _ _ _ _), Lib.hid (Below.refl _ _)⟩
  case round =>
    obtain ⟨i, hi, rfl, HO, HB⟩ := hrel
    have hxr := HX.out.below HB.out
    have hc1 := hxr.c1
    by_cases hlt : i < n
    · have i1 : decide ((i : Int) < (n : Int)) = true := decide_eq_true (by omega)
      obtain ⟨q, hq⟩ : ∃ q, M.L[i]? = some q := ⟨_, List.getElem?_eq_getElem (by have := HN.out; omega)⟩
      obtain ⟨g, cap, he, hcell⟩ := rowk_cell hxr.rowL (by have := HN.out; omega)
      rw [← HN.out] at he
      injection he with he _ hec
      subst he; subst hec
      have q1 := hcell _ _ (pflat_get M.L i q hq).1
      have q2 := hcell _ _ (pflat_get M.L i q hq).2
      have hst : (M.L.take (i + 1)).filter (fun q => selB f t q.1) = (M.L.take i).filter (fun q => selB f t q.1) ++ if selB f t q.1 = true then [q] else [] := by
        rw [take_snoc _ _ _ hq, List.filter_append, List.filter_cons, List.filter_nil]
      obtain ⟨ol, hol⟩ : ∃ ol, ol = (M.L.take i).filter (fun q => selB f t q.1) := ⟨_, rfl⟩
      rw [← hol] at HO hst
      have holl : ol.length ≤ i := by rw [hol]; refine Nat.le_trans (List.length_filter_le _ _) ?_; rw [List.length_take]; omega
      have HST := Lib.hid hst
      obtain ⟨qk, qv⟩ := q
      simp only at q1 q2 HST
      have hbs : w.heap.size ≤ wr.heap.size := HB.out.size
      obtain ⟨oa, oc, rfl⟩ := rowk_shape HO.out
      have hw0 : IntKind.i64.wrap ((i : Int) + 1) = ((i + 1 : Nat) : Int) := by rw [IntKind.wrap_i64]; omega
      clear hcell hst hol hxr hq
      have hno : selB f t qk = false → (M.L.take (i + 1)).filter (fun q => selB f t q.1) = ol := fun h => by rw [HST.out, if_neg (by rw [h]; decide), List.append_nil]
      have hyes : selB f t qk = true → (M.L.take (i + 1)).filter (fun q => selB f t q.1) = ol ++ [(qk, qv)] := fun h => by rw [HST.out, if_pos h]
      have HNO := Lib.hid hno
      have HYES := Lib.hid hyes
      clear hno hyes HST
      cases g1 : slt qk f with
      | true =>
        have g1' : Op.bytesLess qk.toList f.toList = true := g1
        have HS := Lib.hid (show selB f t qk = false by unfold selB; rw [g1]; rfl)
        clear g1
        go_wp2_with fail
        exact ⟨⟨i + 1, by omega, rfl, Lib.hid (by rw [HNO.out HS.out]; exact HO.out), HB⟩, by simp [intOf]; omega⟩
      | false =>
        have g1' : Op.bytesLess qk.toList f.toList = false := g1
        have g2 := emptyB t
        by_cases ht : t.size = 0
        · rw [decide_eq_true ht] at g2
          have HS := Lib.hid (show selB f t qk = true by unfold selB; rw [g1, decide_eq_true ht]; rfl)
          clear g1
          go_wp2_with (at_builtin; go_must (refine wp_app_q w.heap.size rfl _ _ rfl (.slice oa ol.length oc) (.slice (some ⟨wr.heap.size, 0, none⟩) 1 1) ol [(qk, qv)] rfl rfl (rowk_keep ((Keep.refl (fun _ => False) wr).alloc _) HO.out (fun _ _ h => h)) (qr_one wr qk qv) (by simp; omega) (by omega) (by simp) ?_); intro v5 w5 ho5 hk5 hn5; have hb5 := (HB.out.alloc hbs (.cells #[.string qk, .string qv] 117)).trans (hk5.below (B := w.heap.size) (by simp; omega) (fun k hk => (rowk_blk HO.out hk).1)); have HO5 := Lib.hid ho5; have HB5 := Lib.hid hb5; clear ho5 hk5 hn5 hb5)
          exact ⟨⟨i + 1, by omega, rfl, Lib.hid (by rw [HYES.out HS.out]; exact HO5.out), HB5⟩, by simp [intOf]; omega⟩
        · rw [decide_eq_false ht] at g2
          cases g3 : slt qk t with
          | true =>
            have g3' : Op.bytesLess qk.toList t.toList = true := g3
            have HS := Lib.hid (show selB f t qk = true by unfold selB; rw [g1, g3]; simp)
            clear g1 g3
            go_wp2_with (at_builtin; go_must (refine wp_app_q w.heap.size rfl _ _ rfl (.slice oa ol.length oc) (.slice (some ⟨wr.heap.size, 0, none⟩) 1 1) ol [(qk, qv)] rfl rfl (rowk_keep ((Keep.refl (fun _ => False) wr).alloc _) HO.out (fun _ _ h => h)) (qr_one wr qk qv) (by simp; omega) (by omega) (by simp) ?_); intro v5 w5 ho5 hk5 hn5; have hb5 := (HB.out.alloc hbs (.cells #[.string qk, .string qv] 117)).trans (hk5.below (B := w.heap.size) (by simp; omega) (fun k hk => (rowk_blk HO.out hk).1)); have HO5 := Lib.hid ho5; have HB5 := Lib.hid hb5; clear ho5 hk5 hn5 hb5)
            exact ⟨⟨i + 1, by omega, rfl, Lib.hid (by rw [HYES.out HS.out]; exact HO5.out), HB5⟩, by simp [intOf]; omega⟩
          | false =>
            have g3' : Op.bytesLess qk.toList t.toList = false := g3
            have HS := Lib.hid (show selB f t qk = false by unfold selB; rw [g1, g3, decide_eq_false ht]; rfl)
            clear g1 g3
            go_wp2_with fail
            exact ⟨⟨i + 1, by omega, rfl, Lib.hid (by rw [HNO.out HS.out]; exact HO.out), HB⟩, by simp [intOf]; omega⟩
    · obtain rfl : i = n := by omega
      have i1 : decide ((i : Int) < (i : Int)) = false := decide_eq_false (by omega)
      have HT := Lib.hid (show M.L.take i = M.L by rw [HN.out]; exact List.take_length)
      clear hxr
      go_wp2_with fail
      go_ret
      refine ⟨_, rfl, ?_, HB.out⟩
      have := QR.ofRow HO.out
      rw [HT.out] at this
      exact this
theorem pre_take (s k : ByteArray) (h : s.size ≤ k.size) : ((k.extract 0 s.size).toList == s.toList) = pre s k := by
  rw [seq_iff]
  unfold pre
  have hk := data_len k
  have hs := data_len s
  have e : (k.extract 0 s.size).data.toList = k.data.toList.take s.size := by rw [extract_list, List.drop_zero, Nat.sub_zero]
  by_cases hp : s.data.toList.isPrefixOf k.data.toList = true
  · rw [hp]
    refine decide_eq_true (ba_ext ?_)
    rw [e]
    obtain ⟨r, hr⟩ := List.isPrefixOf_iff_prefix.1 hp
    rw [← hr, ← hs, List.take_left]
  · rw [Bool.eq_false_iff.2 hp]
    refine decide_eq_false (fun he => hp ?_)
    rw [List.isPrefixOf_iff_prefix]
    have h2 := congrArg (fun x => x.data.toList) he
    simp only [e] at h2
    exact ⟨k.data.toList.drop s.size, by rw [← h2, List.take_append_drop]⟩
theorem pre_long (s k : ByteArray) (h : k.size < s.size) : pre s k = false := by
  unfold pre
  refine Bool.eq_false_iff.2 (fun hp => ?_)
  have := (List.isPrefixOf_iff_prefix.1 hp).length_le
  rw [data_len, data_len] at this
  omega
theorem rscan_any (s : ByteArray) (hs : s.size ≤ maxLen) (hX : M16Is w B p vL vZ M) (hl : M.L.length ≤ 100000) (hsm : ∀ q ∈ M.L, q.1.size ≤ 256) :
    Calls Try.prog 67 #[mV p, .string s] w fun e w' => ∃ v, e = .returned v ∧ QR w' v (M.L.filter fun q => pre s q.1) ∧ Below w.heap.size w w' := by
  obtain ⟨la, lc, rfl⟩ := rowk_shape hX.rowL
  have hs' : s.size ≤ 9223372036854775807 := by unfold maxLen at hs; omega
  have HX := Lib.hid hX
  have HSM := Lib.hid hsm
  obtain ⟨n, hn⟩ : ∃ n, n = M.L.length := ⟨_, rfl⟩
  have HN := Lib.hid hn
  rw [← hn] at hl HX
  unfold mV
  clear hX hn hsm hs
  go_enter Try.func67, Try.ntmps67
  go_wp2_with fail
  go_loopw [5, 6] (fun v s' wr => ∃ i : Nat, i ≤ n ∧ s' = .int .i64 i ∧ Hid (wr.ownsRow w.heap.size 117 2 v ((M.L.take i).filter fun q => pre s q.1).length (((M.L.take i).filter fun q => pre s q.1).flatMap pc)) ∧ Hid (Below w.heap.size w wr)) (fun _ s' _ => n - (intOf s').toNat)
  case atStart => exact ⟨0, by omega, rfl, Lib.hid (World.ownsRow_nil _ _ _ _), Lib.hid (Below.refl _ _)⟩
  case round =>
    obtain ⟨i, hi, rfl, HO, HB⟩ := hrel
    have hxr := HX.out.below HB.out
    have hc1 := hxr.c1
    by_cases hlt : i < n
    · have i1 : decide ((i : Int) < (n : Int)) = true := decide_eq_true (by omega)
      obtain ⟨q, hq⟩ : ∃ q, M.L[i]? = some q := ⟨_, List.getElem?_eq_getElem (by have := HN.out; omega)⟩
      obtain ⟨g, cap, he, hcell⟩ := rowk_cell hxr.rowL (by have := HN.out; omega)
      rw [← HN.out] at he
      injection he with he _ hec
      subst he; subst hec
      have q1 := hcell _ _ (pflat_get M.L i q hq).1
      have q2 := hcell _ _ (pflat_get M.L i q hq).2
      have hq256 := HSM.out q (List.mem_of_getElem? hq)
      have hst : (M.L.take (i + 1)).filter (fun q => pre s q.1) = (M.L.take i).filter (fun q => pre s q.1) ++ if pre s q.1 = true then [q] else [] := by
        rw [take_snoc _ _ _ hq, List.filter_append, List.filter_cons, List.filter_nil]
      obtain ⟨ol, hol⟩ : ∃ ol, ol = (M.L.take i).filter (fun q => pre s q.1) := ⟨_, rfl⟩
      rw [← hol] at HO hst
      have holl : ol.length ≤ i := by rw [hol]; refine Nat.le_trans (List.length_filter_le _ _) ?_; rw [List.length_take]; omega
      have HST := Lib.hid hst
      obtain ⟨qk, qv⟩ := q
      simp only at q1 q2 HST hq256
      have hbs : w.heap.size ≤ wr.heap.size := HB.out.size
      obtain ⟨oa, oc, rfl⟩ := rowk_shape HO.out
      clear hcell hst hol hxr hq
      have HNO := Lib.hid (show pre s qk = false → (M.L.take (i + 1)).filter (fun q => pre s q.1) = ol from fun h => by rw [HST.out, if_neg (by rw [h]; decide), List.append_nil])
      have HYES := Lib.hid (show pre s qk = true → (M.L.take (i + 1)).filter (fun q => pre s q.1) = ol ++ [(qk, qv)] from fun h => by rw [HST.out, if_pos h])
      clear HST
      by_cases hlen : s.size ≤ qk.size
      · have i2 : decide ((qk.size : Int) ≥ (s.size : Int)) = true := decide_eq_true (by omega)
        have hsl : ∀ W, (Instr.slice 9 (.string qk) none (some (.int .i64 (s.size : Int))) none).run Try.prog W = .ok (.string (qk.extract 0 s.size)) W := fun W => by
          rw [run_slice_string_h (P := Try.prog) W 9 qk uStr .i64 (s.size : Int) (by omega) (by omega)]
          rw [Int.toNat_natCast]
        have hpt := pre_take s qk hlen
        obtain ⟨x, hx⟩ : ∃ x, x = qk.extract 0 s.size := ⟨_, rfl⟩
        rw [← hx] at hsl hpt
        have hle : (s.size : Int) ≤ (qk.size : Int) := by omega
        clear hx
        cases hp : pre s qk with
        | true =>
          have HS := Lib.hid hp
          rw [hp] at hpt
          clear hp
          go_wp2_with (at_builtin; go_must (refine wp_app_q w.heap.size rfl _ _ rfl (.slice oa ol.length oc) (.slice (some ⟨wr.heap.size, 0, none⟩) 1 1) ol [(qk, qv)] rfl rfl (rowk_keep ((Keep.refl (fun _ => False) wr).alloc _) HO.out (fun _ _ h => h)) (qr_one wr qk qv) (by simp; omega) (by omega) (by simp) ?_); intro v5 w5 ho5 hk5 hn5; have hb5 := (HB.out.alloc hbs (.cells #[.string qk, .string qv] 117)).trans (hk5.below (B := w.heap.size) (by simp; omega) (fun k hk => (rowk_blk HO.out hk).1)); have HO5 := Lib.hid ho5; have HB5 := Lib.hid hb5; clear ho5 hk5 hn5 hb5)
          exact ⟨⟨i + 1, by omega, rfl, Lib.hid (by rw [HYES.out HS.out]; exact HO5.out), HB5⟩, by simp [intOf]; omega⟩
        | false =>
          have HS := Lib.hid hp
          rw [hp] at hpt
          clear hp
          go_wp2_with fail
          exact ⟨⟨i + 1, by omega, rfl, Lib.hid (by rw [HNO.out HS.out]; exact HO.out), HB⟩, by simp [intOf]; omega⟩
      · have i2 : decide ((qk.size : Int) ≥ (s.size : Int)) = false := decide_eq_false (by omega)
        have HS := Lib.hid (pre_long s qk (by omega))
        go_wp2_with fail
        exact ⟨⟨i + 1, by omega, rfl, Lib.hid (by rw [HNO.out HS.out]; exact HO.out), HB⟩, by simp [intOf]; omega⟩
    · obtain rfl : i = n := by omega
      have i1 : decide ((i : Int) < (i : Int)) = false := decide_eq_false (by omega)
      have HT := Lib.hid (show M.L.take i = M.L by rw [HN.out]; exact List.take_length)
      clear hxr
      go_wp2_with fail
      go_ret
      refine ⟨_, rfl, ?_, HB.out⟩
      have := QR.ofRow HO.out
      rw [HT.out] at this
      exact this
theorem QR.at_ {w : World} {a : Option Addr} {n c : Nat} {l : AL} (h : QR w (.slice a n c) l) {i : Nat} {q : Pr} (hq : l[i]? = some q) :
    ∃ b off, a = some ⟨b, off, none⟩ ∧ w.cell? ⟨b, off + i * 2, none⟩ = some (.string q.1) ∧ w.cell? ⟨b, off + i * 2 + 1, none⟩ = some (.string q.2) := by
  obtain ⟨a', c', he, _, _, _, h4⟩ := h
  injection he with he _ _
  subst he
  rcases h4 with h4 | ⟨b, off, rfl, h4⟩
  · rw [h4] at hq; simp at hq
  · obtain ⟨e1, e2⟩ := pflat_get l i q hq
    exact ⟨b, off, rfl, h4 _ _ e1, h4 _ _ e2⟩
/-- the law's pairs, of two rows that read alike -/
theorem pairs_any (va vb : Value) (l : AL) (w : World) (hA : PR w va l) (hB : QR w vb l) (hl : l.length ≤ 1000000) :
    Calls Try.prog 41 #[va, vb] w fun e w' => e = .returned (.bool true) ∧ Below w.heap.size w w' := by
  obtain ⟨aa, ac, rfl, ha⟩ := hA
  obtain ⟨ba, bc, rfl, hb⟩ := hB
  have HA : Hid (PR w (.slice aa l.length ac) l) := Lib.hid ⟨aa, ac, rfl, ha⟩
  have HB : Hid (QR w (.slice ba l.length bc) l) := Lib.hid ⟨ba, bc, rfl, hb⟩
  obtain ⟨n, hn⟩ : ∃ n, n = l.length := ⟨_, rfl⟩
  have HN := Lib.hid hn
  rw [← hn] at HA HB hl ⊢
  clear ha hb hn
  go_enter Try.func41, Try.ntmps41
  go_wp2_with fail
  go_loopw [5] (fun s wr => ∃ i : Nat, i ≤ n ∧ s = .int .i64 i ∧ Hid (Below w.heap.size w wr)) (fun s _ => n - (intOf s).toNat)
  case atStart => exact ⟨0, by omega, rfl, Lib.hid (Below.refl _ _)⟩
  case round =>
    obtain ⟨i, hi, rfl, HBL⟩ := hrel
    by_cases hlt : i < n
    · have i1 : decide ((i : Int) < (n : Int)) = true := decide_eq_true (by omega)
      obtain ⟨q, hq⟩ : ∃ q, l[i]? = some q := ⟨_, List.getElem?_eq_getElem (by have := HN.out; omega)⟩
      obtain ⟨g, kv, vv, rfl, c1, c2, e1, e2⟩ := (HA.out.below HBL.out).at_ hq
      obtain ⟨b, off, rfl, d1, d2⟩ := (HB.out.keep (Keep.ofBelow HBL.out (fun _ => False)) (fun _ _ h => h)).at_ hq
      have t1 := fun n : Nat => (e1.drewN n).string (P := Try.prog) 23 5 9 uBytes uByte uStr
      have t2 := fun n : Nat => (e2.drewN n).string (P := Try.prog) 23 5 9 uBytes uByte uStr
      have d1' : ∀ m, (wr.drewN m).cell? ⟨b, off + i * 2, none⟩ = some (.string q.1) := fun m => d1
      have d2' : ∀ m, (wr.drewN m).cell? ⟨b, off + i * 2 + 1, none⟩ = some (.string q.2) := fun m => d2
      have c1' : ∀ m, (wr.drewN m).cell? ⟨g, i * 2, none⟩ = some kv := fun m => c1
      have c2' : ∀ m, (wr.drewN m).cell? ⟨g, i * 2 + 1, none⟩ = some vv := fun m => c2
      have p1 : (q.1.toList == q.1.toList) = true := beq_iff_eq.2 rfl
      have p2 : (q.2.toList == q.2.toList) = true := beq_iff_eq.2 rfl
      have p3 : (q.1.toList != q.1.toList) = false := by simp
      have p4 : (q.2.toList != q.2.toList) = false := by simp
      clear e1 e2 hq c1 c2 d1 d2
      go_wp2_with fail
      go_quiet (fail)
      go_wp2_with fail
      go_roundw
      case rel => exact ⟨i + 1, by omega, by go_num, Lib.hid (below_drewN HBL.out _)⟩
      case measure => simp [intOf]; omega
    · obtain rfl : i = n := by omega
      have i1 : decide ((i : Int) < (i : Int)) = false := decide_eq_false (by omega)
      go_wp2_with fail
      go_ret
      exact ⟨rfl, HBL.out⟩
end
end Go.Proofs.Ytiadoimdohnebaa
