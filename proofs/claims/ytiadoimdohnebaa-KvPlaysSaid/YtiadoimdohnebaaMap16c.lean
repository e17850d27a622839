/- The document's map (chapter 16): the walks of its Put and Delete. -/
import Derived.Test.YtiadoimdohnebaaMap16b
namespace Go.Proofs.Ytiadoimdohnebaa
open Go.RowKit
set_option maxRecDepth 100000
set_option maxHeartbeats 2000000
set_option linter.unusedVariables false
set_option linter.unusedSimpArgs false
def rputE (M : M16) (k v : ByteArray) : Int := if k.size = 0 then 1 else if 256 < k.size ∨ 1024 < v.size then 2 else if isP k M.L = false ∧ 0 ≤ M.room ∧ M.room ≤ M.L.length then 3 else 0
def insR (k v : ByteArray) (l : AL) : AL := l.take (plc k l) ++ [(k, v)] ++ l.drop (if isP k l = true then plc k l + 1 else plc k l)
def rputS (M : M16) (k v : ByteArray) : M16 := if rputE M k v = 0 then { M with L := insR k v M.L } else M
def delR (k : ByteArray) (l : AL) : AL := if isP k l = true then l.take (plc k l) ++ l.drop (plc k l + 1) else l
section
variable {w : World} {B p : Nat} {vL vZ : Value} {M : M16}
theorem M16Is.setL (h : M16Is w B p vL vZ M) (v' : Value) (l : AL) (hr : w.ownsRow B 117 2 v' l.length (l.flatMap pc)) : M16Is (w.setCell ⟨p, 1, none⟩ v') B p v' vZ { M with L := l } ∧ Keep (fun i => i = p) w (w.setCell ⟨p, 1, none⟩ v') := by
  have hk : Keep (fun i => i = p) w (w.setCell ⟨p, 1, none⟩ v') := (Keep.refl (fun i => i = p) w).setCell (p := ⟨p, 1, none⟩) (.inl rfl) _
  refine ⟨⟨blk_setCell h.blk 1 _, rowk_keep hk hr (fun i hi e => ?_), rowk_keep hk h.rowZ (fun i hi e => h.neZ (by rw [← e]; exact hi)), h.low⟩, hk⟩
  obtain ⟨_, _, c, hc⟩ := rowk_blk hr hi
  rw [e, h.blk] at hc; simp only [Option.some.injEq, Obj.cells.injEq] at hc; exact absurd hc.2.1 (by decide)
theorem qr_one (W : World) (k v : ByteArray) : QR (W.alloc (.cells #[.string k, .string v] 117)) (.slice (some ⟨W.heap.size, 0, none⟩) 1 1) [(k, v)] := by
  refine ⟨some ⟨W.heap.size, 0, none⟩, 1, rfl, (fun e => by cases e), by decide, Nat.le_refl _, .inr ⟨W.heap.size, 0, rfl, fun j u hu => ?_⟩⟩
  have e : [(k, v)].flatMap pc = [Value.string k, .string v] := rfl
  rw [e] at hu
  rw [blk_cell (blk_new W _), Nat.zero_add]
  simpa using hu
theorem rdel_any (k : ByteArray) (hX : M16Is w B p vL vZ M) (hl : M.L.length ≤ 1000000) :
    Calls Try.prog 63 #[mV p, .string k] w fun e w' => e = .returned (.bool (isP k M.L)) ∧ (∃ vL', M16Is w' B p vL' vZ { M with L := delR k M.L }) ∧ Keep (fun i => i = p) w w' := by
  have HP := Lib.hid (place_any k hX hl)
  have HX := Lib.hid hX
  have hB : B ≤ w.heap.size := Nat.le_trans hX.low (Nat.le_of_lt (blk_lt hX.blk))
  cases hb : isP k M.L with
  | false =>
    have HD := Lib.hid (show delR k M.L = M.L by unfold delR; rw [hb]; rfl)
    rw [HD.out]
    rw [hb] at HP
    unfold mV at *
    clear hX hb
    go_enter Try.func63, Try.ntmps63
    go_wp2_with fail
    refine HP.out.mono ?_
    rintro e w1 ⟨rfl, hb⟩
    have HX1 := Lib.hid (HX.out.below hb)
    have HK1 := Lib.hid (Keep.ofBelow hb (fun i => i = p))
    clear hb
    go_wp2_with fail
    go_ret
    exact ⟨rfl, ⟨_, HX1.out⟩, HK1.out⟩
  | true =>
    obtain ⟨q, hq, hqk, hg⟩ := isP_at hb
    obtain ⟨i, hi⟩ : ∃ i, i = plc k M.L := ⟨_, rfl⟩
    have HD := Lib.hid (show delR k M.L = M.L.take i ++ M.L.drop (i + 1) by unfold delR; rw [if_pos hb, hi])
    rw [HD.out]
    rw [← hi] at hq HP
    rw [hb] at HP
    have hin := (List.getElem?_eq_some_iff.1 hq).1
    obtain ⟨la, lc, rfl⟩ := rowk_shape hX.rowL
    have hqr := QR.ofRow hX.rowL
    obtain ⟨a', c', he, q1, q2, q3, _⟩ := hqr
    injection he with he1 _ he3
    subst he1; subst he3
    obtain ⟨h1a, h1b⟩ := cut_h la lc M.L i (by omega) q3 q2 q1
    have h2b := fun (W : World) (h : QR W (.slice la M.L.length lc) M.L) => h.from_ (i + 1) (by omega)
    have hw1 : IntKind.i64.wrap ((i : Int) + 1) = ((i + 1 : Nat) : Int) := by rw [IntKind.wrap_i64]; omega
    have HQ1 := Lib.hid h1b
    have HQ2 := Lib.hid h2b
    obtain ⟨n, hn⟩ : ∃ n, n = M.L.length := ⟨_, rfl⟩
    have HN := Lib.hid hn
    have hle1 : (i : Int) + 1 ≤ (n : Int) := by omega
    have hle0 : (0 : Int) ≤ (i : Int) + 1 := by omega
    have hle2 : i + 1 ≤ n := by omega
    rw [← hn] at HX h1a HQ1 HQ2 hl
    unfold mV at *
    clear hX hb hq hqk hg hi hn q1 q2 q3 h1b h2b HD
    go_enter Try.func63, Try.ntmps63
    go_wp2_with fail
    refine HP.out.mono ?_
    rintro e w1 ⟨rfl, hb⟩
    have hx1 := HX.out.below hb
    have HX1 := Lib.hid hx1
    have HK1 := Lib.hid (Keep.ofBelow hb (fun i => i = p))
    have hc1 := hx1.c1
    have hsz : w.heap.size ≤ w1.heap.size := hb.size
    have hql : QR w1 (.slice la n lc) M.L := by have := QR.ofRow hx1.rowL; exact this
    have HQL := Lib.hid hql
    clear hb hx1 hql
    go_wp2_with (at_builtin; go_must (
      first
        | (refine wp_app_q B rfl _ _ rfl (.slice none 0 0) (.slice la i lc) [] (M.L.take i) rfl rfl (World.ownsRow_nil _ _ _ _) (HQ1.out w1 HQL.out) (by omega) (by simp) (by rw [List.length_take]; have := HN.out; omega) ?_
           intro v2 w2 ho2 hk2 hn2
           have hb2 := hk2.below (B := w1.heap.size) (Nat.le_refl _) (fun k hk => by cases hk)
           have hlt2 : (M.L.take i).length = i := by rw [List.length_take]; have := HN.out; omega
           rw [List.nil_append, hlt2] at ho2
           obtain ⟨a3, c3, rfl⟩ := rowk_shape ho2
           have HO2 := Lib.hid ho2
           have HN2 := Lib.hid hn2
           have hx2 := HX1.out.below hb2
           have HX2 := Lib.hid hx2
           have hc2 := hx2.c1
           have HB2 := Lib.hid hb2
           have hs2 := hb2.size
           have HQL2 := Lib.hid (show QR w2 (.slice la n lc) M.L from QR.ofRow hx2.rowL)
           clear ho2 hk2 hn2 hx2 hb2 hlt2)
        | (refine wp_app_q B rfl _ _ rfl (.slice a3 i c3) _ (M.L.take i) (M.L.drop (i + 1)) rfl rfl (by rw [List.length_take, Nat.min_eq_left (by have := HN.out; omega)]; exact HO2.out) (HQ2.out w2 HQL2.out) (by omega) (by rw [List.length_take]; have := HN.out; omega) (by rw [List.length_drop]; have := HN.out; omega) ?_
           intro v3 w3 ho3 hk3 hn3
           have hb3 := hk3.below (B := w1.heap.size) hs2 (fun k hk => by rcases HN2.out k hk with h | h; cases h; exact h)
           obtain ⟨a4, c4, rfl⟩ : ∃ a c, v3 = .slice a (n - 1) c := by
             have := rowk_shape ho3
             rw [List.length_append, List.length_take, List.length_drop, Nat.min_eq_left (by have := HN.out; omega), show i + (M.L.length - (i + 1)) = n - 1 by have := HN.out; omega] at this
             exact this
           have hx3 := HX1.out.below (HB2.out.trans hb3)
           have HO3 := Lib.hid ho3
           have HX3 := Lib.hid hx3
           have HB3 := Lib.hid (HB2.out.trans hb3)
           have hc3 := hx3.c1
           have hf3 := hx3.fz 1
           clear ho3 hk3 hn3 hb3 hx3)))
    all_goals
      have hset := HX3.out.setL (.slice a4 (n - 1) c4) (M.L.take i ++ M.L.drop (i + 1)) HO3.out
      go_ret
      exact ⟨rfl, ⟨_, hset.1⟩, (HK1.out.trans (Keep.ofBelow HB3.out (fun i => i = p)) (fun i hi => .inl hi)).trans hset.2 (fun i hi => .inl hi)⟩
theorem rput_any (k v : ByteArray) (hX : M16Is w B p vL vZ M) (hl : M.L.length ≤ 100000) (hks : k.size ≤ maxLen) (hvs : v.size ≤ maxLen) :
    Calls Try.prog 61 #[mV p, .string k, .string v] w fun e w' => e = .returned (.int .i64 (rputE M k v)) ∧ (∃ vL', M16Is w' B p vL' vZ (rputS M k v)) ∧ Keep (fun i => i = p) w w' := by
  have HX := Lib.hid hX
  by_cases h0 : k.size = 0
  · have E1 := Lib.hid (show rputE M k v = 1 by unfold rputE; rw [if_pos h0])
    have E2 := Lib.hid (show rputS M k v = M by unfold rputS; rw [E1.out]; rfl)
    rw [E1.out, E2.out]
    obtain rfl : k = ByteArray.empty := size0 h0
    unfold mV
    clear hX h0 hks E1 E2
    go_enter Try.func61, Try.ntmps61
    go_wp2_with fail
    go_ret
    exact ⟨rfl, ⟨_, HX.out⟩, Keep.refl _ _⟩
  have i0 : k.toList.isEmpty = false := by
    refine Bool.eq_false_iff.2 (fun h => h0 ?_)
    have h9 := List.isEmpty_iff.1 h
    rw [toList_data] at h9
    have h8 := congrArg List.length h9
    rw [data_len] at h8
    exact h8
  have hks' : k.size ≤ 9223372036854775807 := by unfold maxLen at hks; omega
  have hvs' : v.size ≤ 9223372036854775807 := by unfold maxLen at hvs; omega
  by_cases h1 : 256 < k.size
  · have E1 := Lib.hid (show rputE M k v = 2 by unfold rputE; rw [if_neg h0, if_pos (.inl h1)])
    have E2 := Lib.hid (show rputS M k v = M by unfold rputS; rw [E1.out]; rfl)
    rw [E1.out, E2.out]
    have i1 : decide ((k.size : Int) > 256) = true := decide_eq_true (by omega)
    unfold mV
    clear hX
    go_enter Try.func61, Try.ntmps61
    go_wp2_with fail
    go_ret
    exact ⟨rfl, ⟨_, HX.out⟩, Keep.refl _ _⟩
  have i1 : decide ((k.size : Int) > 256) = false := decide_eq_false (by omega)
  by_cases h2 : 1024 < v.size
  · have E1 := Lib.hid (show rputE M k v = 2 by unfold rputE; rw [if_neg h0, if_pos (.inr h2)])
    have E2 := Lib.hid (show rputS M k v = M by unfold rputS; rw [E1.out]; rfl)
    rw [E1.out, E2.out]
    have i2 : decide ((v.size : Int) > 1024) = true := decide_eq_true (by omega)
    unfold mV
    clear hX
    go_enter Try.func61, Try.ntmps61
    go_wp2_with fail
    go_ret
    exact ⟨rfl, ⟨_, HX.out⟩, Keep.refl _ _⟩
  have i2 : decide ((v.size : Int) > 1024) = false := decide_eq_false (by omega)
  have HP := Lib.hid (place_any k hX (by omega))
  have hB : B ≤ w.heap.size := Nat.le_trans hX.low (Nat.le_of_lt (blk_lt hX.blk))
  obtain ⟨la, lc, rfl⟩ := rowk_shape hX.rowL
  by_cases h3 : isP k M.L = false ∧ 0 ≤ M.room ∧ M.room ≤ M.L.length
  · have E1 := Lib.hid (show rputE M k v = 3 by unfold rputE; rw [if_neg h0, if_neg (by omega), if_pos h3])
    have E2 := Lib.hid (show rputS M k v = M by unfold rputS; rw [E1.out]; rfl)
    rw [E1.out, E2.out]
    rw [h3.1] at HP
    obtain ⟨room, hroom⟩ : ∃ room, room = M.room := ⟨_, rfl⟩
    have i3 : decide (room ≥ 0) = true := decide_eq_true (by rw [hroom]; exact h3.2.1)
    have i4 : decide ((M.L.length : Int) ≥ room) = true := decide_eq_true (by rw [hroom]; exact h3.2.2)
    have HRM := Lib.hid hroom
    unfold mV at *
    clear hX h3 hroom
    go_enter Try.func61, Try.ntmps61
    go_wp2_with fail
    refine HP.out.mono ?_
    rintro e w1 ⟨rfl, hb⟩
    have hx1 := HX.out.below hb
    have HX1 := Lib.hid hx1
    have HK1 := Lib.hid (Keep.ofBelow hb (fun i => i = p))
    have q0 : ∀ n, (w1.drewN n).cell? ⟨p, 0, none⟩ = some (.int .i64 room) := fun n => by rw [HRM.out]; exact hx1.c0
    have q1 : ∀ n, (w1.drewN n).cell? ⟨p, 1, none⟩ = some (.slice la M.L.length lc) := fun n => hx1.c1
    clear hb hx1
    go_wp2_with fail
    go_quiet (fail)
    go_wp2_with fail
    go_ret
    exact ⟨rfl, ⟨_, HX1.out.below (below_drewN_of _ _)⟩, HK1.out.drewN _⟩
  · have E1 := Lib.hid (show rputE M k v = 0 by unfold rputE; rw [if_neg h0, if_neg (by omega), if_neg h3])
    have E2 := Lib.hid (show rputS M k v = { M with L := insR k v M.L } by unfold rputS; rw [if_pos E1.out])
    rw [E1.out, E2.out]
    have hqr := QR.ofRow hX.rowL
    obtain ⟨a', c', he, y1, y2, y3, _⟩ := hqr
    injection he with he1 _ he3
    subst he1; subst he3
    obtain ⟨i, hi⟩ : ∃ i, i = plc k M.L := ⟨_, rfl⟩
    have hil : i ≤ M.L.length := by rw [hi]; exact plc_le k M.L
    obtain ⟨b, hbb⟩ : ∃ b, b = isP k M.L := ⟨_, rfl⟩
    obtain ⟨j, hj⟩ : ∃ j, j = if b = true then i + 1 else i := ⟨_, rfl⟩
    have hjl : j ≤ M.L.length := by
      rw [hj]
      cases hb2 : b with
      | false => simp; exact hil
      | true =>
        rw [hb2] at hbb
        obtain ⟨q, hq, _⟩ := isP_at hbb.symm
        rw [← hi] at hq
        have := (List.getElem?_eq_some_iff.1 hq).1
        simp; omega
    have HIN := Lib.hid (show insR k v M.L = M.L.take i ++ [(k, v)] ++ M.L.drop j by unfold insR; rw [← hbb, ← hi, ← hj])
    rw [HIN.out]
    obtain ⟨h1a, h1b⟩ := cut_h la lc M.L i hil y3 y2 y1
    have h2b := fun (W : World) (h : QR W (.slice la M.L.length lc) M.L) => h.from_ j hjl
    have HQ1 := Lib.hid h1b
    have HQ2 := Lib.hid h2b
    obtain ⟨room, hroom⟩ : ∃ room, room = M.room := ⟨_, rfl⟩
    have HRM := Lib.hid hroom
    obtain ⟨n, hn⟩ : ∃ n, n = M.L.length := ⟨_, rfl⟩
    have HN := Lib.hid hn
    have hle2 : j ≤ n := by omega
    have hle1 : (j : Int) ≤ (n : Int) := by omega
    have hle0 : (0 : Int) ≤ (j : Int) := by omega
    have h3' : ¬ (b = false ∧ 0 ≤ room ∧ room ≤ n) := by rw [hbb, hroom, hn]; exact h3
    rw [← hi, ← hbb] at HP
    rw [← hn] at HX h1a HQ1 HQ2 hl hil
    have hjb : b = true → j = i + 1 := fun h => by rw [hj, if_pos h]
    have hjb2 : b = false → j = i := fun h => by rw [hj, if_neg (by rw [h]; decide)]
    unfold mV at *
    clear hX h3 hroom hn hi hbb hj hjl y1 y2 y3 h1b h2b E1 E2
    have hrest : ∀ (W : World), Below w.heap.size w W → True := fun _ _ => trivial
    go_enter Try.func61, Try.ntmps61
    go_wp2_with fail
    refine HP.out.mono ?_
    rintro e w1 ⟨rfl, hb⟩
    have hx1 := HX.out.below hb
    have HX1 := Lib.hid hx1
    have HK1 := Lib.hid (Keep.ofBelow hb (fun i => i = p))
    have hsz1 : w.heap.size ≤ w1.heap.size := hb.size
    have q0 : ∀ n, (w1.drewN n).cell? ⟨p, 0, none⟩ = some (.int .i64 room) := fun n => by rw [HRM.out]; exact hx1.c0
    have q1 : ∀ m, (w1.drewN m).cell? ⟨p, 1, none⟩ = some (.slice la n lc) := fun m => hx1.c1
    clear hb hx1 HP
    go_upto_region 6 with fail
    go_cut [46] (fun s46 wx => s46 = .bool false ∧ Hid (Below w1.heap.size w1 wx))
    case first =>
      have HBW := Lib.hid (fun m => (below_drewN_of w1 m : Below w1.heap.size w1 (w1.drewN m)))
      cases b with
      | true =>
        go_wp2_with fail
        go_quiet (fail)
        go_wp2_with fail
        go_meet
        exact ⟨rfl, Lib.hid (HBW.out _)⟩
      | false =>
        by_cases hr0 : 0 ≤ room
        · have i3 : decide (room ≥ 0) = true := decide_eq_true hr0
          have i4 : decide ((n : Int) ≥ room) = false := decide_eq_false (fun h => h3' ⟨rfl, hr0, h⟩)
          go_wp2_with fail
          go_quiet (fail)
          go_wp2_with fail
          go_meet
          exact ⟨rfl, Lib.hid (HBW.out _)⟩
        · have i3 : decide (room ≥ 0) = false := decide_eq_false hr0
          go_wp2_with fail
          go_quiet (fail)
          go_wp2_with fail
          go_meet
          exact ⟨rfl, Lib.hid (HBW.out _)⟩
    case rest =>
      obtain ⟨rfl, hbc⟩ := hcut
      have hxc := HX1.out.below hbc.out
      have HXC := Lib.hid hxc
      have HKC := Lib.hid (HK1.out.trans (Keep.ofBelow hbc.out (fun i => i = p)) (fun i hi => .inl hi))
      have hszc : w.heap.size ≤ wc.heap.size := Nat.le_trans hsz1 hbc.out.size
      have hc1 := hxc.c1
      have HQL := Lib.hid (show QR wc (.slice la n lc) M.L from QR.ofRow hxc.rowL)
      clear hxc q0 q1 h3'
      cases b with
      | true =>
        obtain rfl := hjb rfl
        have hle3 : (i : Int) + 1 ≤ (n : Int) := by omega
        have hle4 : (0 : Int) ≤ (i : Int) + 1 := by omega
        have hw1 : IntKind.i64.wrap ((i : Int) + 1) = ((i + 1 : Nat) : Int) := by rw [IntKind.wrap_i64]; omega
        clear hjb hjb2
        go_wp2_with (at_builtin; go_must (
          first
            | (refine wp_app_q B rfl _ _ rfl (.slice none 0 0) (.slice la i lc) [] (M.L.take i) rfl rfl (World.ownsRow_nil _ _ _ _) (HQ1.out wc HQL.out) (by omega) (by simp) (by rw [List.length_take]; have := HN.out; omega) ?_
               intro v2 w2 ho2 hk2 hn2
               have hb2 := hk2.below (B := wc.heap.size) (Nat.le_refl _) (fun k hk => by cases hk)
               have hlt2 : (M.L.take i).length = i := by rw [List.length_take]; have := HN.out; omega
               rw [List.nil_append, hlt2] at ho2
               obtain ⟨a3, c3, rfl⟩ := rowk_shape ho2
               have HO2 := Lib.hid ho2
               have HN2 := Lib.hid hn2
               have hx2 := HXC.out.below hb2
               have HX2 := Lib.hid hx2
               have HB2 := Lib.hid hb2
               have hs2 := hb2.size
               clear ho2 hk2 hn2 hx2 hb2 hlt2)
            | (refine wp_app_q B rfl _ _ rfl (.slice a3 i c3) (.slice (some ⟨w2.heap.size, 0, none⟩) 1 1) (M.L.take i) [(k, v)] rfl rfl (by rw [List.length_take, Nat.min_eq_left (by have := HN.out; omega)]; exact rowk_keep ((Keep.refl (fun _ => False) w2).alloc _) HO2.out (fun _ _ h => h)) (qr_one w2 k v) (by simp; omega) (by rw [List.length_take]; have := HN.out; omega) (by simp) ?_
               intro v5 w5 ho5 hk5 hn5
               have hal : Below wc.heap.size w2 (w2.alloc (.cells #[.string k, .string v] 117)) := (Below.refl _ _).alloc hs2 _
               have hb5 := hal.trans (hk5.below (B := wc.heap.size) (by simp; omega) (fun k hk => by rcases HN2.out k hk with h | h; cases h; exact h))
               obtain ⟨a5, c5, rfl⟩ : ∃ a c, v5 = .slice a (i + 1) c := by
                 have := rowk_shape ho5
                 rw [List.length_append, List.length_take, Nat.min_eq_left (by have := HN.out; omega)] at this
                 exact this
               have hx5 := HXC.out.below (HB2.out.trans hb5)
               have HO5 := Lib.hid ho5
               have HX5 := Lib.hid hx5
               have HB5 := Lib.hid (HB2.out.trans hb5)
               have hs5 := HB5.out.size
               have HN5 := Lib.hid (show ∀ k, (Value.slice a5 (i + 1) c5).ownBlock = some k → wc.heap.size ≤ k from fun k hk => by
                 rcases hn5 k hk with h | h
                 · rcases HN2.out k h with h | h; cases h; exact h
                 · simp at h; omega)
               have hc5 := hx5.c1
               have HQL5 := Lib.hid (show QR w5 (.slice la n lc) M.L from QR.ofRow hx5.rowL)
               clear ho5 hk5 hn5 hx5 hb5 hal)
            | (refine wp_app_q B rfl _ _ rfl (.slice a5 (i + 1) c5) _ (M.L.take i ++ [(k, v)]) (M.L.drop (i + 1)) rfl rfl (by rw [List.length_append, List.length_take, Nat.min_eq_left (by have := HN.out; omega)]; have := HO5.out; rw [List.length_append, List.length_take, Nat.min_eq_left (by have := HN.out; omega)] at this; exact this) (HQ2.out w5 HQL5.out) (by omega) (by rw [List.length_append, List.length_take]; have := HN.out; simp; omega) (by rw [List.length_drop]; have := HN.out; omega) ?_
               intro v3 w3 ho3 hk3 hn3
               have hb3 := hk3.below (B := wc.heap.size) hs5 (fun k hk => HN5.out k hk)
               obtain ⟨a4, nn, c4, hv3⟩ : ∃ a nn c, v3 = .slice a nn c := by
                 obtain ⟨a, c, h⟩ := rowk_shape ho3
                 exact ⟨a, _, c, h⟩
               subst hv3
               have hx3 := HXC.out.below (HB5.out.trans hb3)
               have HO3 := Lib.hid ho3
               have HX3 := Lib.hid hx3
               have HB3 := Lib.hid (HB5.out.trans hb3)
               have hc3 := hx3.c1
               have hf3 := hx3.fz 1
               clear ho3 hk3 hn3 hb3 hx3)))
        all_goals
          have hset := HX3.out.setL (.slice a4 nn c4) (M.L.take i ++ [(k, v)] ++ M.L.drop (i + 1)) HO3.out
          go_ret
          exact ⟨rfl, ⟨_, by have := hset.1; rw [List.append_assoc] at this; exact this⟩, (HKC.out.trans (Keep.ofBelow HB3.out (fun i => i = p)) (fun i hi => .inl hi)).trans hset.2 (fun i hi => .inl hi)⟩
      | false =>
        obtain rfl := (hjb2 rfl).symm
        clear hjb hjb2
        go_wp2_with (at_builtin; go_must (
          first
            | (refine wp_app_q B rfl _ _ rfl (.slice none 0 0) (.slice la i lc) [] (M.L.take i) rfl rfl (World.ownsRow_nil _ _ _ _) (HQ1.out wc HQL.out) (by omega) (by simp) (by rw [List.length_take]; have := HN.out; omega) ?_
               intro v2 w2 ho2 hk2 hn2
               have hb2 := hk2.below (B := wc.heap.size) (Nat.le_refl _) (fun k hk => by cases hk)
               have hlt2 : (M.L.take i).length = i := by rw [List.length_take]; have := HN.out; omega
               rw [List.nil_append, hlt2] at ho2
               obtain ⟨a3, c3, rfl⟩ := rowk_shape ho2
               have HO2 := Lib.hid ho2
               have HN2 := Lib.hid hn2
               have hx2 := HXC.out.below hb2
               have HX2 := Lib.hid hx2
               have HB2 := Lib.hid hb2
               have hs2 := hb2.size
               clear ho2 hk2 hn2 hx2 hb2 hlt2)
            | (refine wp_app_q B rfl _ _ rfl (.slice a3 i c3) (.slice (some ⟨w2.heap.size, 0, none⟩) 1 1) (M.L.take i) [(k, v)] rfl rfl (by rw [List.length_take, Nat.min_eq_left (by have := HN.out; omega)]; exact rowk_keep ((Keep.refl (fun _ => False) w2).alloc _) HO2.out (fun _ _ h => h)) (qr_one w2 k v) (by simp; omega) (by rw [List.length_take]; have := HN.out; omega) (by simp) ?_
               intro v5 w5 ho5 hk5 hn5
               have hal : Below wc.heap.size w2 (w2.alloc (.cells #[.string k, .string v] 117)) := (Below.refl _ _).alloc hs2 _
               have hb5 := hal.trans (hk5.below (B := wc.heap.size) (by simp; omega) (fun k hk => by rcases HN2.out k hk with h | h; cases h; exact h))
               obtain ⟨a5, c5, rfl⟩ : ∃ a c, v5 = .slice a (i + 1) c := by
                 have := rowk_shape ho5
                 rw [List.length_append, List.length_take, Nat.min_eq_left (by have := HN.out; omega)] at this
                 exact this
               have hx5 := HXC.out.below (HB2.out.trans hb5)
               have HO5 := Lib.hid ho5
               have HX5 := Lib.hid hx5
               have HB5 := Lib.hid (HB2.out.trans hb5)
               have hs5 := HB5.out.size
               have HN5 := Lib.hid (show ∀ k, (Value.slice a5 (i + 1) c5).ownBlock = some k → wc.heap.size ≤ k from fun k hk => by
                 rcases hn5 k hk with h | h
                 · rcases HN2.out k h with h | h; cases h; exact h
                 · simp at h; omega)
               have hc5 := hx5.c1
               have HQL5 := Lib.hid (show QR w5 (.slice la n lc) M.L from QR.ofRow hx5.rowL)
               clear ho5 hk5 hn5 hx5 hb5 hal)
            | (refine wp_app_q B rfl _ _ rfl (.slice a5 (i + 1) c5) _ (M.L.take i ++ [(k, v)]) (M.L.drop i) rfl rfl (by rw [List.length_append, List.length_take, Nat.min_eq_left (by have := HN.out; omega)]; have := HO5.out; rw [List.length_append, List.length_take, Nat.min_eq_left (by have := HN.out; omega)] at this; exact this) (HQ2.out w5 HQL5.out) (by omega) (by rw [List.length_append, List.length_take]; have := HN.out; simp; omega) (by rw [List.length_drop]; have := HN.out; omega) ?_
               intro v3 w3 ho3 hk3 hn3
               have hb3 := hk3.below (B := wc.heap.size) hs5 (fun k hk => HN5.out k hk)
               obtain ⟨a4, nn, c4, hv3⟩ : ∃ a nn c, v3 = .slice a nn c := by
                 obtain ⟨a, c, h⟩ := rowk_shape ho3
                 exact ⟨a, _, c, h⟩
               subst hv3
               have hx3 := HXC.out.below (HB5.out.trans hb3)
               have HO3 := Lib.hid ho3
               have HX3 := Lib.hid hx3
               have HB3 := Lib.hid (HB5.out.trans hb3)
               have hc3 := hx3.c1
               have hf3 := hx3.fz 1
               clear ho3 hk3 hn3 hb3 hx3)))
        all_goals
          have hset := HX3.out.setL (.slice a4 nn c4) (M.L.take i ++ [(k, v)] ++ M.L.drop i) HO3.out
          go_ret
          exact ⟨rfl, ⟨_, by have := hset.1; rw [List.append_assoc] at this; exact this⟩, (HKC.out.trans (Keep.ofBelow HB3.out (fun i => i = p)) (fun i hi => .inl hi)).trans hset.2 (fun i hi => .inl hi)⟩
end
end Go.Proofs.Ytiadoimdohnebaa
