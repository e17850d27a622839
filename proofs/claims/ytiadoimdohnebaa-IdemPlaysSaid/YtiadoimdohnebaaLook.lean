/- The walks of idem.look, at each of its three types: what is told is left to the closure's own contract. (Printed by wip/gen/look.py.) -/
import Derived.Test.YtiadoimdohnebaaIdem
import Derived.Test.YtiadoimdohnebaaReg
import Derived.Deep.DeepCutAuto
namespace Go.Proofs.Ytiadoimdohnebaa
open Go.RowKit
set_option maxRecDepth 100000
set_option linter.unusedVariables false
set_option linter.unusedSimpArgs false
set_option maxHeartbeats 4000000
theorem nil_get (b : Nat) (w : World) : (nilAhead 267 29 (.pointer (some ⟨b, 0, none⟩)) "Get").run Try.prog w = .ok (some false) w := by kernel_rfl
/-- what a key's value tells: a record, and whether it is there -/
structure Told (o : Option ByteArray) (r : Rec) (ok : Bool) : Prop where
  none : o = none → r = ⟨ByteArray.empty, ByteArray.empty, 0⟩ ∧ ok = false
  some : ∀ s, o = some s → s = r.enc ∧ r.Ok ∧ ok = true
theorem Told.sizes {o : Option ByteArray} {r : Rec} {ok : Bool} (h : Told o r ok) : r.body.size + r.reply.size ≤ 900 := by
  cases o with
  | none => rw [(h.none rfl).1]; decide
  | some s => exact (h.some s rfl).2.1.long
theorem Told.isSome {o : Option ByteArray} {r : Rec} {ok : Bool} (h : Told o r ok) : o.isSome = ok := by
  cases o with
  | none => rw [(h.none rfl).2]; rfl
  | some s => rw [(h.some s rfl).2.2]; rfl
theorem Told.getD {o : Option ByteArray} {r : Rec} {ok : Bool} (h : Told o r ok) : (o.getD ByteArray.empty).size ≤ 1024 := by
  cases o with
  | none => decide
  | some s =>
    obtain ⟨h1, h2, _⟩ := h.some s rfl
    have := h2.long
    rw [Option.getD_some, h1, Rec.enc_size]; omega
theorem Told.read {o : Option ByteArray} {r : Rec} {ok : Bool} (h : Told o r ok) : Rd.text ⟨o.getD ByteArray.empty, false⟩ = r.body ∧ Rd.text (Rd.tskip ⟨o.getD ByteArray.empty, false⟩) = r.reply ∧ Rd.val (Rd.tskip (Rd.tskip ⟨o.getD ByteArray.empty, false⟩)) 8 = r.seq := by
  cases o with
  | none => rw [(h.none rfl).1]; exact nil_read
  | some s =>
    obtain ⟨h1, h2, _⟩ := h.some s rfl
    rw [Option.getD_some, h1]
    have := rec_read r h2
    exact ⟨this.1, this.2.1, this.2.2.1⟩
theorem Told.done {o : Option ByteArray} {r : Rec} (h : Told o r true) : Rd.skip (Rd.tskip (Rd.tskip ⟨o.getD ByteArray.empty, false⟩)) 8 = ⟨ByteArray.empty, false⟩ := by
  cases o with
  | none => cases (h.none rfl).2
  | some s =>
    obtain ⟨h1, h2, _⟩ := h.some s rfl
    rw [Option.getD_some, h1]
    exact (rec_read r h2).2.2.2
theorem look_f_bad (p : Nat) (t : Int) (x : ByteArray) (tell : Value) (w : World) (hx : chk x = false) (hxl : x.size ≤ maxLen) :
    Calls Try.prog 50 #[sV p, .int .u32 t, .string x, tell] w fun e w' => e = .returned (.tuple #[.slice none 0 0, .int .i64 1]) ∧ w = w' := by
  have HC := Lib.hid (check_i x w hxl)
  have HX := Lib.hid hx
  unfold sV pV
  clear hx hxl
  go_enter Try.func50, Try.ntmps50
  go_wp2_with fail
  refine HC.out.mono ?_
  rintro e w1 ⟨rfl, rfl⟩
  rw [HX.out]
  go_wp2
  go_ret2
  exact ⟨rfl, rfl⟩
theorem look_f (p : Nat) (room : Int) (b1 b2 : Nat) (now was : AL) (t : Int) (h0 : 0 ≤ t) (h1 : t ≤ 4294967295) (x : ByteArray) (hx : chk x = true) (q1 q2 : Nat) (w : World) (hM : MemIs w p room b1 b2 now was) (r : Rec) (ok : Bool) (hT : Told (AL.get (kb t x) now) r ok)
    (Post : Value → Int → World → Prop)
    (hF : ∀ W bv rv, BS W bv r.body → BS W rv r.reply → Below w.heap.size w W → Calls Try.prog 51 #[.agg #[bv, rv, .int .u64 r.seq], .bool ok , .pointer (some ⟨q1, 0, none⟩), .pointer (some ⟨q2, 0, none⟩)] W fun e W' => ∃ u c, e = .returned (.tuple #[u, .int .i64 c]) ∧ Post u c W') :
    Calls Try.prog 50 #[sV p, .int .u32 t, .string x, .func (Fn.func 51) #[] #[.pointer (some ⟨q1, 0, none⟩), .pointer (some ⟨q2, 0, none⟩)]] w fun e w' => ∃ u c, e = .returned (.tuple #[u, .int .i64 c]) ∧ Post u c w' := by
  have hxl : x.size ≤ 16 := by unfold chk at hx; simp at hx; omega
  have HC := Lib.hid (check_i x w (by unfold maxLen; omega))
  have HX := Lib.hid hx
  have HM := Lib.hid hM
  have HMd := Lib.hid (show MemIs w.drew p room b1 b2 now was from hM.below ((Below.refl _ _).drew))
  have HT := Lib.hid hT
  have HF := Lib.hid hF
  have HK := Lib.hid fun W => key_i t h0 h1 x (by omega) W
  have na := nil_get p
  unfold sV pV
  clear hx hM hT hF hxl
  go_enter Try.func50, Try.ntmps50
  go_wp2_with fail
  refine HC.out.mono ?_
  rintro e w1 ⟨rfl, rfl⟩
  rw [HX.out]
  go_upto_region 4 with fail
  go_cut [11, 12, 13] (fun s11 s12 s13 wx => s12 = .bool ok ∧ s13 = .int .i64 0 ∧ Hid (BS wx s11 ((AL.get (kb t x) now).getD ByteArray.empty)) ∧ Hid (Below w.heap.size w wx))
  case first =>
    refine wp_region_held_drew (S := (fun _ => True)) (by kernel_rfl) ?_ (fun hHeld0 => ?_)
    · dsimp only
    refine takeN (v := ?_) 0 rfl (by kernel_rfl) (by kernel_rfl) (by kernel_rfl) (fun _ _ _ h => h) (by rfl) ?_ hHeld0 ?_
    rotate_left
    · intro w hSw; (try dsimp only at hSw); go_simp; with_reducible rfl
    try simp only [Act.put, List.setIfInBounds_toArray, List.set_cons_zero, List.set_cons_succ]
    refine takeN (v := ?_) 1 rfl (by kernel_rfl) (by kernel_rfl) (by kernel_rfl) (fun _ _ _ h => h) (by rfl) ?_ hHeld0 ?_
    rotate_left
    · intro w hSw; (try dsimp only at hSw); go_simp; with_reducible rfl
    try simp only [Act.put, List.setIfInBounds_toArray, List.set_cons_zero, List.set_cons_succ]
    refine takeN (v := ?_) 2 rfl (by kernel_rfl) (by kernel_rfl) (by kernel_rfl) (fun _ _ _ h => h) (by rfl) ?_ hHeld0 ?_
    rotate_left
    · intro w hSw; (try dsimp only at hSw); go_simp; with_reducible rfl
    try simp only [Act.put, List.setIfInBounds_toArray, List.set_cons_zero, List.set_cons_succ]
    refine wpAnyH_ready (rs := [3, 4]) (by kernel_rfl) (by simp) ?_
    refine readyN rfl (fun K hK => ?_) ?_
    · -- operation 3
      go_simp
      first
        | (go_at_call 56; refine (HK.out _).mono ?_; rintro e w2 ⟨v2, rfl, ho, hb⟩
           have HO2 := Lib.hid ho.bs
           have HB2 := Lib.hid (show Below w.heap.size w w2 from ((Below.refl w.heap.size w).drew).trans hb)
           clear ho hb)
        | (go_at_call 18; refine (get_any p room b1 b2 now was v2 (kb t x) w2 (HM.out.below HB2.out) HO2.out (fun v hv => by have := HT.out.getD; rw [hv, Option.getD_some] at this; omega)).mono ?_; rintro e w3 ⟨v3, rfl, hm3, hb3⟩
           rw [HT.out.isSome]
           have HV3 := Lib.hid hm3.1
           have HB3 := Lib.hid (HB2.out.trans (hb3.mono HB2.out.size))
           clear hm3 hb3)
      go_wp2_with fail
      refine hK.out _ _ ?_ (fun hHeld1 => ?_)
      · dsimp only
      clear hK K hHeld0
      try simp only [Act.put, List.setIfInBounds_toArray, List.set_cons_zero, List.set_cons_succ]
      refine wpAnyH_ready (rs := [4]) (by kernel_rfl) (by simp) ?_
      refine readyN rfl (fun K hK => ?_) ?_
      · -- operation 4
        go_simp
        refine hK.out _ _ ?_ (fun hHeld2 => ?_)
        · dsimp only
        clear hK K hHeld1
        try simp only [Act.put, List.setIfInBounds_toArray, List.set_cons_zero, List.set_cons_succ]
        refine takeN (v := ?_) 5 rfl (by kernel_rfl) (by kernel_rfl) (by kernel_rfl) (fun _ _ _ h => h) (by rfl) ?_ hHeld2 ?_
        rotate_left
        · intro w hSw; (try dsimp only at hSw); go_simp; with_reducible rfl
        try simp only [Act.put, List.setIfInBounds_toArray, List.set_cons_zero, List.set_cons_succ]
        refine takeN (v := ?_) 6 rfl (by kernel_rfl) (by kernel_rfl) (by kernel_rfl) (fun _ _ _ h => h) (by rfl) ?_ hHeld2 ?_
        rotate_left
        · intro w hSw; (try dsimp only at hSw); go_simp; with_reducible rfl
        try simp only [Act.put, List.setIfInBounds_toArray, List.set_cons_zero, List.set_cons_succ]
        refine wpAnyH_ready (rs := [7]) (by kernel_rfl) (by simp) ?_
        refine readyN rfl (fun K hK => ?_) ?_
        · -- operation 7
          go_simp
          go_wp2_with (
              first
                | (go_at_call 56; refine (HK.out _).mono ?_; rintro e w2 ⟨v2, rfl, ho, hb⟩
                   have HO2 := Lib.hid ho.bs
                   have HB2 := Lib.hid (show Below w.heap.size w w2 from ((Below.refl w.heap.size w).drew).trans hb)
                   clear ho hb)
                | (go_at_call 18; refine (get_any p room b1 b2 now was v2 (kb t x) w2 (HM.out.below HB2.out) HO2.out (fun v hv => by have := HT.out.getD; rw [hv, Option.getD_some] at this; omega)).mono ?_; rintro e w3 ⟨v3, rfl, hm3, hb3⟩
                   rw [HT.out.isSome]
                   have HV3 := Lib.hid hm3.1
                   have HB3 := Lib.hid (HB2.out.trans (hb3.mono HB2.out.size))
                   clear hm3 hb3))
          refine hK.out _ _ ?_ (fun hHeld3 => ?_)
          · dsimp only
          clear hK K hHeld2
          try simp only [Act.put, List.setIfInBounds_toArray, List.set_cons_zero, List.set_cons_succ]
          refine takeN (v := ?_) 8 rfl (by kernel_rfl) (by kernel_rfl) (by kernel_rfl) (fun _ _ _ h => h) (by rfl) ?_ hHeld3 ?_
          rotate_left
          · intro w hSw; (try dsimp only at hSw); go_simp; with_reducible rfl
          try simp only [Act.put, List.setIfInBounds_toArray, List.set_cons_zero, List.set_cons_succ]
          refine takeN (v := ?_) 9 rfl (by kernel_rfl) (by kernel_rfl) (by kernel_rfl) (fun _ _ _ h => h) (by rfl) ?_ hHeld3 ?_
          rotate_left
          · intro w hSw; (try dsimp only at hSw); go_simp; with_reducible rfl
          try simp only [Act.put, List.setIfInBounds_toArray, List.set_cons_zero, List.set_cons_succ]
          refine takeN (v := ?_) 10 rfl (by kernel_rfl) (by kernel_rfl) (by kernel_rfl) (fun _ _ _ h => h) (by rfl) ?_ hHeld3 ?_
          rotate_left
          · intro w hSw; (try dsimp only at hSw); go_simp; with_reducible rfl
          try simp only [Act.put, List.setIfInBounds_toArray, List.set_cons_zero, List.set_cons_succ]
          refine takeN (v := ?_) 11 rfl (by kernel_rfl) (by kernel_rfl) (by kernel_rfl) (fun _ _ _ h => h) (by rfl) ?_ hHeld3 ?_
          rotate_left
          · intro w hSw; (try dsimp only at hSw); go_simp; with_reducible rfl
          try simp only [Act.put, List.setIfInBounds_toArray, List.set_cons_zero, List.set_cons_succ]
          refine takeN (v := ?_) 12 rfl (by kernel_rfl) (by kernel_rfl) (by kernel_rfl) (fun _ _ _ h => h) (by rfl) ?_ hHeld3 ?_
          rotate_left
          · intro w hSw; (try dsimp only at hSw); go_simp; with_reducible rfl
          try simp only [Act.put, List.setIfInBounds_toArray, List.set_cons_zero, List.set_cons_succ]
          refine takeN (v := ?_) 13 rfl (by kernel_rfl) (by kernel_rfl) (by kernel_rfl) (fun _ _ _ h => h) (by rfl) ?_ hHeld3 ?_
          rotate_left
          · intro w hSw; (try dsimp only at hSw); go_simp; with_reducible rfl
          try simp only [Act.put, List.setIfInBounds_toArray, List.set_cons_zero, List.set_cons_succ]
          refine takeN (v := ?_) 14 rfl (by kernel_rfl) (by kernel_rfl) (by kernel_rfl) (fun _ _ _ h => h) (by rfl) ?_ hHeld3 ?_
          rotate_left
          · intro w hSw; (try dsimp only at hSw); go_simp; with_reducible rfl
          try simp only [Act.put, List.setIfInBounds_toArray, List.set_cons_zero, List.set_cons_succ]
          refine wpAnyH_done (by kernel_rfl) ?_ _
          go_wp2_with fail
          go_meet
          exact ⟨rfl, rfl, HV3, HB3⟩
        exact AllReadyH.nil
      exact AllReadyH.nil
    refine readyN rfl (fun K hK => ?_) ?_
    · -- operation 4
      go_simp
      refine hK.out _ _ ?_ (fun hHeld1 => ?_)
      · dsimp only
      clear hK K hHeld0
      try simp only [Act.put, List.setIfInBounds_toArray, List.set_cons_zero, List.set_cons_succ]
      refine takeN (v := ?_) 5 rfl (by kernel_rfl) (by kernel_rfl) (by kernel_rfl) (fun _ _ _ h => h) (by rfl) ?_ hHeld1 ?_
      rotate_left
      · intro w hSw; (try dsimp only at hSw); go_simp; with_reducible rfl
      try simp only [Act.put, List.setIfInBounds_toArray, List.set_cons_zero, List.set_cons_succ]
      refine takeN (v := ?_) 6 rfl (by kernel_rfl) (by kernel_rfl) (by kernel_rfl) (fun _ _ _ h => h) (by rfl) ?_ hHeld1 ?_
      rotate_left
      · intro w hSw; (try dsimp only at hSw); go_simp; with_reducible rfl
      try simp only [Act.put, List.setIfInBounds_toArray, List.set_cons_zero, List.set_cons_succ]
      refine wpAnyH_ready (rs := [3]) (by kernel_rfl) (by simp) ?_
      refine readyN rfl (fun K hK => ?_) ?_
      · -- operation 3
        go_simp
        first
          | (go_at_call 56; refine (HK.out _).mono ?_; rintro e w2 ⟨v2, rfl, ho, hb⟩
             have HO2 := Lib.hid ho.bs
             have HB2 := Lib.hid (show Below w.heap.size w w2 from ((Below.refl w.heap.size w).drew).trans hb)
             clear ho hb)
          | (go_at_call 18; refine (get_any p room b1 b2 now was v2 (kb t x) w2 (HM.out.below HB2.out) HO2.out (fun v hv => by have := HT.out.getD; rw [hv, Option.getD_some] at this; omega)).mono ?_; rintro e w3 ⟨v3, rfl, hm3, hb3⟩
             rw [HT.out.isSome]
             have HV3 := Lib.hid hm3.1
             have HB3 := Lib.hid (HB2.out.trans (hb3.mono HB2.out.size))
             clear hm3 hb3)
        go_wp2_with fail
        refine hK.out _ _ ?_ (fun hHeld2 => ?_)
        · dsimp only
        clear hK K hHeld1
        try simp only [Act.put, List.setIfInBounds_toArray, List.set_cons_zero, List.set_cons_succ]
        refine wpAnyH_ready (rs := [7]) (by kernel_rfl) (by simp) ?_
        refine readyN rfl (fun K hK => ?_) ?_
        · -- operation 7
          go_simp
          go_wp2_with (
              first
                | (go_at_call 56; refine (HK.out _).mono ?_; rintro e w2 ⟨v2, rfl, ho, hb⟩
                   have HO2 := Lib.hid ho.bs
                   have HB2 := Lib.hid (show Below w.heap.size w w2 from ((Below.refl w.heap.size w).drew).trans hb)
                   clear ho hb)
                | (go_at_call 18; refine (get_any p room b1 b2 now was v2 (kb t x) w2 (HM.out.below HB2.out) HO2.out (fun v hv => by have := HT.out.getD; rw [hv, Option.getD_some] at this; omega)).mono ?_; rintro e w3 ⟨v3, rfl, hm3, hb3⟩
                   rw [HT.out.isSome]
                   have HV3 := Lib.hid hm3.1
                   have HB3 := Lib.hid (HB2.out.trans (hb3.mono HB2.out.size))
                   clear hm3 hb3))
          refine hK.out _ _ ?_ (fun hHeld3 => ?_)
          · dsimp only
          clear hK K hHeld2
          try simp only [Act.put, List.setIfInBounds_toArray, List.set_cons_zero, List.set_cons_succ]
          refine takeN (v := ?_) 8 rfl (by kernel_rfl) (by kernel_rfl) (by kernel_rfl) (fun _ _ _ h => h) (by rfl) ?_ hHeld3 ?_
          rotate_left
          · intro w hSw; (try dsimp only at hSw); go_simp; with_reducible rfl
          try simp only [Act.put, List.setIfInBounds_toArray, List.set_cons_zero, List.set_cons_succ]
          refine takeN (v := ?_) 9 rfl (by kernel_rfl) (by kernel_rfl) (by kernel_rfl) (fun _ _ _ h => h) (by rfl) ?_ hHeld3 ?_
          rotate_left
          · intro w hSw; (try dsimp only at hSw); go_simp; with_reducible rfl
          try simp only [Act.put, List.setIfInBounds_toArray, List.set_cons_zero, List.set_cons_succ]
          refine takeN (v := ?_) 10 rfl (by kernel_rfl) (by kernel_rfl) (by kernel_rfl) (fun _ _ _ h => h) (by rfl) ?_ hHeld3 ?_
          rotate_left
          · intro w hSw; (try dsimp only at hSw); go_simp; with_reducible rfl
          try simp only [Act.put, List.setIfInBounds_toArray, List.set_cons_zero, List.set_cons_succ]
          refine takeN (v := ?_) 11 rfl (by kernel_rfl) (by kernel_rfl) (by kernel_rfl) (fun _ _ _ h => h) (by rfl) ?_ hHeld3 ?_
          rotate_left
          · intro w hSw; (try dsimp only at hSw); go_simp; with_reducible rfl
          try simp only [Act.put, List.setIfInBounds_toArray, List.set_cons_zero, List.set_cons_succ]
          refine takeN (v := ?_) 12 rfl (by kernel_rfl) (by kernel_rfl) (by kernel_rfl) (fun _ _ _ h => h) (by rfl) ?_ hHeld3 ?_
          rotate_left
          · intro w hSw; (try dsimp only at hSw); go_simp; with_reducible rfl
          try simp only [Act.put, List.setIfInBounds_toArray, List.set_cons_zero, List.set_cons_succ]
          refine takeN (v := ?_) 13 rfl (by kernel_rfl) (by kernel_rfl) (by kernel_rfl) (fun _ _ _ h => h) (by rfl) ?_ hHeld3 ?_
          rotate_left
          · intro w hSw; (try dsimp only at hSw); go_simp; with_reducible rfl
          try simp only [Act.put, List.setIfInBounds_toArray, List.set_cons_zero, List.set_cons_succ]
          refine takeN (v := ?_) 14 rfl (by kernel_rfl) (by kernel_rfl) (by kernel_rfl) (fun _ _ _ h => h) (by rfl) ?_ hHeld3 ?_
          rotate_left
          · intro w hSw; (try dsimp only at hSw); go_simp; with_reducible rfl
          try simp only [Act.put, List.setIfInBounds_toArray, List.set_cons_zero, List.set_cons_succ]
          refine wpAnyH_done (by kernel_rfl) ?_ _
          go_wp2_with fail
          go_meet
          exact ⟨rfl, rfl, HV3, HB3⟩
        exact AllReadyH.nil
      exact AllReadyH.nil
    exact AllReadyH.nil
  case rest =>
    obtain ⟨rfl, rfl, HV3, HB3⟩ := hcut
    obtain ⟨s, hs⟩ : ∃ s, s = (AL.get (kb t x) now).getD ByteArray.empty := ⟨_, rfl⟩
    have hsl : s.size ≤ 1024 := by rw [hs]; exact HT.out.getD
    have hr1 := HT.out.read
    rw [← hs] at HV3 hr1
    have HR1 := Lib.hid hr1
    have HS := Lib.hid hs
    clear hs hr1 na
    go_wp2_with fail
    refine (new_r _ s wc HV3.out (by omega)).mono ?_
    rintro e w4 ⟨q, rfl, hq, hr, hb⟩
    have HQ4 := Lib.hid hr
    have HB4 := Lib.hid (HB3.out.trans (hb.mono HB3.out.size))
    have HQ := Lib.hid (show w.heap.size ≤ q from Nat.le_trans HB3.out.size hq)
    clear hq hr hb
    go_wp2_with fail
    refine (text_r q _ w4 HQ4.out).mono ?_
    rintro e w5 ⟨v5, rfl, ho, hr, hk⟩
    rw [HR1.out.1] at ho
    have HO5 := Lib.hid ho
    have HQ5 := Lib.hid hr
    have HB5 := Lib.hid (HB4.out.trans (hk.below HB4.out.size (fun i hi => by subst hi; exact HQ.out)))
    clear ho hr hk
    go_wp2_with fail
    refine (text_r q _ w5 HQ5.out).mono ?_
    rintro e w6 ⟨v6, rfl, ho, hr, hk⟩
    rw [HR1.out.2.1] at ho
    have HO6 := Lib.hid ho
    have HQ6 := Lib.hid hr
    have HO56 := Lib.hid (HO5.out.keep hk (fun k hk' h => by have := (HO5.out.base_le k hk').1; have := HQ4.out.lt; omega))
    have HB6 := Lib.hid (HB5.out.trans (hk.below HB5.out.size (fun i hi => by subst hi; exact HQ.out)))
    have HS56 := Lib.hid hk.size
    clear ho hr hk
    go_wp2_with fail
    refine (uint_r q _ w6 HQ6.out).mono ?_
    rintro e w7 ⟨rfl, hr, hk⟩
    rw [HR1.out.2.2]
    obtain ⟨a5, c5, rfl⟩ := HO5.out.size
    obtain ⟨a6, c6, rfl⟩ := HO6.out.size
    have HQ7 := Lib.hid hr
    have HO57 := Lib.hid (HO56.out.keep hk (fun k hk' h => by have := (HO56.out.base_le k hk').1; have := HQ4.out.lt; omega))
    have HO67 := Lib.hid (HO6.out.keep hk (fun k hk' h => by have := (HO6.out.base_le k hk').1; have := HQ5.out.lt; omega))
    have HB7 := Lib.hid (HB6.out.trans (hk.below HB6.out.size (fun i hi => by subst hi; exact HQ.out)))
    clear hr hk HO5 HO6 HO56 HQ4 HQ5 HQ6
    have HB8 := Lib.hid (HB7.out.alloc HB7.out.size (.cells #[.slice a5 r.body.size c5, .slice a6 r.reply.size c6, .int .u64 r.seq] 102))
    have HFF := Lib.hid (HF.out _ _ _ (HO57.out.bs.alloc (.cells #[.slice a5 r.body.size c5, .slice a6 r.reply.size c6, .int .u64 r.seq] 102)) (HO67.out.bs.alloc _) HB8.out)
    cases ok with
    | false =>
      go_wp2_with fail
      refine HFF.out.mono ?_
      rintro e w8 ⟨u, c, rfl, hp⟩
      have HP := Lib.hid hp
      clear hp
      go_wp2
      go_ret2
      exact ⟨_, _, rfl, HP.out⟩
    | true =>
      have HD := Lib.hid (done_w q _ _ (HQ7.out.below ((Below.refl w7.heap.size w7).alloc (Nat.le_refl _) (.cells #[.slice a5 r.body.size c5, .slice a6 r.reply.size c6, .int .u64 r.seq] 102))))
      have hdn := HT.out.done
      rw [← HS.out] at hdn
      rw [hdn] at HD
      clear hdn
      go_wp2_with fail
      refine HD.out.mono ?_
      rintro e w8 ⟨rfl, rfl⟩
      rw [if_neg (by decide)]
      go_wp2_with fail
      refine HFF.out.mono ?_
      rintro e w9 ⟨u, c, rfl, hp⟩
      have HP := Lib.hid hp
      clear hp
      go_wp2
      go_ret2
      exact ⟨_, _, rfl, HP.out⟩
theorem look_k_bad (p : Nat) (t : Int) (x : ByteArray) (tell : Value) (w : World) (hx : chk x = false) (hxl : x.size ≤ maxLen) :
    Calls Try.prog 54 #[sV p, .int .u32 t, .string x, tell] w fun e w' => e = .returned (.tuple #[.bool false, .int .i64 1]) ∧ w = w' := by
  have HC := Lib.hid (check_i x w hxl)
  have HX := Lib.hid hx
  unfold sV pV
  clear hx hxl
  go_enter Try.func54, Try.ntmps54
  go_wp2_with fail
  refine HC.out.mono ?_
  rintro e w1 ⟨rfl, rfl⟩
  rw [HX.out]
  go_wp2
  go_ret2
  exact ⟨rfl, rfl⟩
theorem look_k (p : Nat) (room : Int) (b1 b2 : Nat) (now was : AL) (t : Int) (h0 : 0 ≤ t) (h1 : t ≤ 4294967295) (x : ByteArray) (hx : chk x = true) (q1 q2 q3 q4 q5 q6 : Nat) (w : World) (hM : MemIs w p room b1 b2 now was) (r : Rec) (ok : Bool) (hT : Told (AL.get (kb t x) now) r ok)
    (Post : Value → Int → World → Prop)
    (hF : ∀ W bv rv, BS W bv r.body → BS W rv r.reply → Below w.heap.size w W → Calls Try.prog 55 #[.agg #[bv, rv, .int .u64 r.seq], .bool ok , .pointer (some ⟨q1, 0, none⟩), .pointer (some ⟨q2, 0, none⟩), .pointer (some ⟨q3, 0, none⟩), .pointer (some ⟨q4, 0, none⟩), .pointer (some ⟨q5, 0, none⟩), .pointer (some ⟨q6, 0, none⟩)] W fun e W' => ∃ u c, e = .returned (.tuple #[u, .int .i64 c]) ∧ Post u c W') :
    Calls Try.prog 54 #[sV p, .int .u32 t, .string x, .func (Fn.func 55) #[] #[.pointer (some ⟨q1, 0, none⟩), .pointer (some ⟨q2, 0, none⟩), .pointer (some ⟨q3, 0, none⟩), .pointer (some ⟨q4, 0, none⟩), .pointer (some ⟨q5, 0, none⟩), .pointer (some ⟨q6, 0, none⟩)]] w fun e w' => ∃ u c, e = .returned (.tuple #[u, .int .i64 c]) ∧ Post u c w' := by
  have hxl : x.size ≤ 16 := by unfold chk at hx; simp at hx; omega
  have HC := Lib.hid (check_i x w (by unfold maxLen; omega))
  have HX := Lib.hid hx
  have HM := Lib.hid hM
  have HMd := Lib.hid (show MemIs w.drew p room b1 b2 now was from hM.below ((Below.refl _ _).drew))
  have HT := Lib.hid hT
  have HF := Lib.hid hF
  have HK := Lib.hid fun W => key_i t h0 h1 x (by omega) W
  have na := nil_get p
  unfold sV pV
  clear hx hM hT hF hxl
  go_enter Try.func54, Try.ntmps54
  go_wp2_with fail
  refine HC.out.mono ?_
  rintro e w1 ⟨rfl, rfl⟩
  rw [HX.out]
  go_upto_region 4 with fail
  go_cut [11, 12, 13] (fun s11 s12 s13 wx => s12 = .bool ok ∧ s13 = .int .i64 0 ∧ Hid (BS wx s11 ((AL.get (kb t x) now).getD ByteArray.empty)) ∧ Hid (Below w.heap.size w wx))
  case first =>
    refine wp_region_held_drew (S := (fun _ => True)) (by kernel_rfl) ?_ (fun hHeld0 => ?_)
    · dsimp only
    refine takeN (v := ?_) 0 rfl (by kernel_rfl) (by kernel_rfl) (by kernel_rfl) (fun _ _ _ h => h) (by rfl) ?_ hHeld0 ?_
    rotate_left
    · intro w hSw; (try dsimp only at hSw); go_simp; with_reducible rfl
    try simp only [Act.put, List.setIfInBounds_toArray, List.set_cons_zero, List.set_cons_succ]
    refine takeN (v := ?_) 1 rfl (by kernel_rfl) (by kernel_rfl) (by kernel_rfl) (fun _ _ _ h => h) (by rfl) ?_ hHeld0 ?_
    rotate_left
    · intro w hSw; (try dsimp only at hSw); go_simp; with_reducible rfl
    try simp only [Act.put, List.setIfInBounds_toArray, List.set_cons_zero, List.set_cons_succ]
    refine takeN (v := ?_) 2 rfl (by kernel_rfl) (by kernel_rfl) (by kernel_rfl) (fun _ _ _ h => h) (by rfl) ?_ hHeld0 ?_
    rotate_left
    · intro w hSw; (try dsimp only at hSw); go_simp; with_reducible rfl
    try simp only [Act.put, List.setIfInBounds_toArray, List.set_cons_zero, List.set_cons_succ]
    refine wpAnyH_ready (rs := [3, 4]) (by kernel_rfl) (by simp) ?_
    refine readyN rfl (fun K hK => ?_) ?_
    · -- operation 3
      go_simp
      first
        | (go_at_call 56; refine (HK.out _).mono ?_; rintro e w2 ⟨v2, rfl, ho, hb⟩
           have HO2 := Lib.hid ho.bs
           have HB2 := Lib.hid (show Below w.heap.size w w2 from ((Below.refl w.heap.size w).drew).trans hb)
           clear ho hb)
        | (go_at_call 18; refine (get_any p room b1 b2 now was v2 (kb t x) w2 (HM.out.below HB2.out) HO2.out (fun v hv => by have := HT.out.getD; rw [hv, Option.getD_some] at this; omega)).mono ?_; rintro e w3 ⟨v3, rfl, hm3, hb3⟩
           rw [HT.out.isSome]
           have HV3 := Lib.hid hm3.1
           have HB3 := Lib.hid (HB2.out.trans (hb3.mono HB2.out.size))
           clear hm3 hb3)
      go_wp2_with fail
      refine hK.out _ _ ?_ (fun hHeld1 => ?_)
      · dsimp only
      clear hK K hHeld0
      try simp only [Act.put, List.setIfInBounds_toArray, List.set_cons_zero, List.set_cons_succ]
      refine wpAnyH_ready (rs := [4]) (by kernel_rfl) (by simp) ?_
      refine readyN rfl (fun K hK => ?_) ?_
      · -- operation 4
        go_simp
        refine hK.out _ _ ?_ (fun hHeld2 => ?_)
        · dsimp only
        clear hK K hHeld1
        try simp only [Act.put, List.setIfInBounds_toArray, List.set_cons_zero, List.set_cons_succ]
        refine takeN (v := ?_) 5 rfl (by kernel_rfl) (by kernel_rfl) (by kernel_rfl) (fun _ _ _ h => h) (by rfl) ?_ hHeld2 ?_
        rotate_left
        · intro w hSw; (try dsimp only at hSw); go_simp; with_reducible rfl
        try simp only [Act.put, List.setIfInBounds_toArray, List.set_cons_zero, List.set_cons_succ]
        refine takeN (v := ?_) 6 rfl (by kernel_rfl) (by kernel_rfl) (by kernel_rfl) (fun _ _ _ h => h) (by rfl) ?_ hHeld2 ?_
        rotate_left
        · intro w hSw; (try dsimp only at hSw); go_simp; with_reducible rfl
        try simp only [Act.put, List.setIfInBounds_toArray, List.set_cons_zero, List.set_cons_succ]
        refine wpAnyH_ready (rs := [7]) (by kernel_rfl) (by simp) ?_
        refine readyN rfl (fun K hK => ?_) ?_
        · -- operation 7
          go_simp
          go_wp2_with (
              first
                | (go_at_call 56; refine (HK.out _).mono ?_; rintro e w2 ⟨v2, rfl, ho, hb⟩
                   have HO2 := Lib.hid ho.bs
                   have HB2 := Lib.hid (show Below w.heap.size w w2 from ((Below.refl w.heap.size w).drew).trans hb)
                   clear ho hb)
                | (go_at_call 18; refine (get_any p room b1 b2 now was v2 (kb t x) w2 (HM.out.below HB2.out) HO2.out (fun v hv => by have := HT.out.getD; rw [hv, Option.getD_some] at this; omega)).mono ?_; rintro e w3 ⟨v3, rfl, hm3, hb3⟩
                   rw [HT.out.isSome]
                   have HV3 := Lib.hid hm3.1
                   have HB3 := Lib.hid (HB2.out.trans (hb3.mono HB2.out.size))
                   clear hm3 hb3))
          refine hK.out _ _ ?_ (fun hHeld3 => ?_)
          · dsimp only
          clear hK K hHeld2
          try simp only [Act.put, List.setIfInBounds_toArray, List.set_cons_zero, List.set_cons_succ]
          refine takeN (v := ?_) 8 rfl (by kernel_rfl) (by kernel_rfl) (by kernel_rfl) (fun _ _ _ h => h) (by rfl) ?_ hHeld3 ?_
          rotate_left
          · intro w hSw; (try dsimp only at hSw); go_simp; with_reducible rfl
          try simp only [Act.put, List.setIfInBounds_toArray, List.set_cons_zero, List.set_cons_succ]
          refine takeN (v := ?_) 9 rfl (by kernel_rfl) (by kernel_rfl) (by kernel_rfl) (fun _ _ _ h => h) (by rfl) ?_ hHeld3 ?_
          rotate_left
          · intro w hSw; (try dsimp only at hSw); go_simp; with_reducible rfl
          try simp only [Act.put, List.setIfInBounds_toArray, List.set_cons_zero, List.set_cons_succ]
          refine takeN (v := ?_) 10 rfl (by kernel_rfl) (by kernel_rfl) (by kernel_rfl) (fun _ _ _ h => h) (by rfl) ?_ hHeld3 ?_
          rotate_left
          · intro w hSw; (try dsimp only at hSw); go_simp; with_reducible rfl
          try simp only [Act.put, List.setIfInBounds_toArray, List.set_cons_zero, List.set_cons_succ]
          refine takeN (v := ?_) 11 rfl (by kernel_rfl) (by kernel_rfl) (by kernel_rfl) (fun _ _ _ h => h) (by rfl) ?_ hHeld3 ?_
          rotate_left
          · intro w hSw; (try dsimp only at hSw); go_simp; with_reducible rfl
          try simp only [Act.put, List.setIfInBounds_toArray, List.set_cons_zero, List.set_cons_succ]
          refine takeN (v := ?_) 12 rfl (by kernel_rfl) (by kernel_rfl) (by kernel_rfl) (fun _ _ _ h => h) (by rfl) ?_ hHeld3 ?_
          rotate_left
          · intro w hSw; (try dsimp only at hSw); go_simp; with_reducible rfl
          try simp only [Act.put, List.setIfInBounds_toArray, List.set_cons_zero, List.set_cons_succ]
          refine takeN (v := ?_) 13 rfl (by kernel_rfl) (by kernel_rfl) (by kernel_rfl) (fun _ _ _ h => h) (by rfl) ?_ hHeld3 ?_
          rotate_left
          · intro w hSw; (try dsimp only at hSw); go_simp; with_reducible rfl
          try simp only [Act.put, List.setIfInBounds_toArray, List.set_cons_zero, List.set_cons_succ]
          refine takeN (v := ?_) 14 rfl (by kernel_rfl) (by kernel_rfl) (by kernel_rfl) (fun _ _ _ h => h) (by rfl) ?_ hHeld3 ?_
          rotate_left
          · intro w hSw; (try dsimp only at hSw); go_simp; with_reducible rfl
          try simp only [Act.put, List.setIfInBounds_toArray, List.set_cons_zero, List.set_cons_succ]
          refine wpAnyH_done (by kernel_rfl) ?_ _
          go_wp2_with fail
          go_meet
          exact ⟨rfl, rfl, HV3, HB3⟩
        exact AllReadyH.nil
      exact AllReadyH.nil
    refine readyN rfl (fun K hK => ?_) ?_
    · -- operation 4
      go_simp
      refine hK.out _ _ ?_ (fun hHeld1 => ?_)
      · dsimp only
      clear hK K hHeld0
      try simp only [Act.put, List.setIfInBounds_toArray, List.set_cons_zero, List.set_cons_succ]
      refine takeN (v := ?_) 5 rfl (by kernel_rfl) (by kernel_rfl) (by kernel_rfl) (fun _ _ _ h => h) (by rfl) ?_ hHeld1 ?_
      rotate_left
      · intro w hSw; (try dsimp only at hSw); go_simp; with_reducible rfl
      try simp only [Act.put, List.setIfInBounds_toArray, List.set_cons_zero, List.set_cons_succ]
      refine takeN (v := ?_) 6 rfl (by kernel_rfl) (by kernel_rfl) (by kernel_rfl) (fun _ _ _ h => h) (by rfl) ?_ hHeld1 ?_
      rotate_left
      · intro w hSw; (try dsimp only at hSw); go_simp; with_reducible rfl
      try simp only [Act.put, List.setIfInBounds_toArray, List.set_cons_zero, List.set_cons_succ]
      refine wpAnyH_ready (rs := [3]) (by kernel_rfl) (by simp) ?_
      refine readyN rfl (fun K hK => ?_) ?_
      · -- operation 3
        go_simp
        first
          | (go_at_call 56; refine (HK.out _).mono ?_; rintro e w2 ⟨v2, rfl, ho, hb⟩
             have HO2 := Lib.hid ho.bs
             have HB2 := Lib.hid (show Below w.heap.size w w2 from ((Below.refl w.heap.size w).drew).trans hb)
             clear ho hb)
          | (go_at_call 18; refine (get_any p room b1 b2 now was v2 (kb t x) w2 (HM.out.below HB2.out) HO2.out (fun v hv => by have := HT.out.getD; rw [hv, Option.getD_some] at this; omega)).mono ?_; rintro e w3 ⟨v3, rfl, hm3, hb3⟩
             rw [HT.out.isSome]
             have HV3 := Lib.hid hm3.1
             have HB3 := Lib.hid (HB2.out.trans (hb3.mono HB2.out.size))
             clear hm3 hb3)
        go_wp2_with fail
        refine hK.out _ _ ?_ (fun hHeld2 => ?_)
        · dsimp only
        clear hK K hHeld1
        try simp only [Act.put, List.setIfInBounds_toArray, List.set_cons_zero, List.set_cons_succ]
        refine wpAnyH_ready (rs := [7]) (by kernel_rfl) (by simp) ?_
        refine readyN rfl (fun K hK => ?_) ?_
        · -- operation 7
          go_simp
          go_wp2_with (
              first
                | (go_at_call 56; refine (HK.out _).mono ?_; rintro e w2 ⟨v2, rfl, ho, hb⟩
                   have HO2 := Lib.hid ho.bs
                   have HB2 := Lib.hid (show Below w.heap.size w w2 from ((Below.refl w.heap.size w).drew).trans hb)
                   clear ho hb)
                | (go_at_call 18; refine (get_any p room b1 b2 now was v2 (kb t x) w2 (HM.out.below HB2.out) HO2.out (fun v hv => by have := HT.out.getD; rw [hv, Option.getD_some] at this; omega)).mono ?_; rintro e w3 ⟨v3, rfl, hm3, hb3⟩
                   rw [HT.out.isSome]
                   have HV3 := Lib.hid hm3.1
                   have HB3 := Lib.hid (HB2.out.trans (hb3.mono HB2.out.size))
                   clear hm3 hb3))
          refine hK.out _ _ ?_ (fun hHeld3 => ?_)
          · dsimp only
          clear hK K hHeld2
          try simp only [Act.put, List.setIfInBounds_toArray, List.set_cons_zero, List.set_cons_succ]
          refine takeN (v := ?_) 8 rfl (by kernel_rfl) (by kernel_rfl) (by kernel_rfl) (fun _ _ _ h => h) (by rfl) ?_ hHeld3 ?_
          rotate_left
          · intro w hSw; (try dsimp only at hSw); go_simp; with_reducible rfl
          try simp only [Act.put, List.setIfInBounds_toArray, List.set_cons_zero, List.set_cons_succ]
          refine takeN (v := ?_) 9 rfl (by kernel_rfl) (by kernel_rfl) (by kernel_rfl) (fun _ _ _ h => h) (by rfl) ?_ hHeld3 ?_
          rotate_left
          · intro w hSw; (try dsimp only at hSw); go_simp; with_reducible rfl
          try simp only [Act.put, List.setIfInBounds_toArray, List.set_cons_zero, List.set_cons_succ]
          refine takeN (v := ?_) 10 rfl (by kernel_rfl) (by kernel_rfl) (by kernel_rfl) (fun _ _ _ h => h) (by rfl) ?_ hHeld3 ?_
          rotate_left
          · intro w hSw; (try dsimp only at hSw); go_simp; with_reducible rfl
          try simp only [Act.put, List.setIfInBounds_toArray, List.set_cons_zero, List.set_cons_succ]
          refine takeN (v := ?_) 11 rfl (by kernel_rfl) (by kernel_rfl) (by kernel_rfl) (fun _ _ _ h => h) (by rfl) ?_ hHeld3 ?_
          rotate_left
          · intro w hSw; (try dsimp only at hSw); go_simp; with_reducible rfl
          try simp only [Act.put, List.setIfInBounds_toArray, List.set_cons_zero, List.set_cons_succ]
          refine takeN (v := ?_) 12 rfl (by kernel_rfl) (by kernel_rfl) (by kernel_rfl) (fun _ _ _ h => h) (by rfl) ?_ hHeld3 ?_
          rotate_left
          · intro w hSw; (try dsimp only at hSw); go_simp; with_reducible rfl
          try simp only [Act.put, List.setIfInBounds_toArray, List.set_cons_zero, List.set_cons_succ]
          refine takeN (v := ?_) 13 rfl (by kernel_rfl) (by kernel_rfl) (by kernel_rfl) (fun _ _ _ h => h) (by rfl) ?_ hHeld3 ?_
          rotate_left
          · intro w hSw; (try dsimp only at hSw); go_simp; with_reducible rfl
          try simp only [Act.put, List.setIfInBounds_toArray, List.set_cons_zero, List.set_cons_succ]
          refine takeN (v := ?_) 14 rfl (by kernel_rfl) (by kernel_rfl) (by kernel_rfl) (fun _ _ _ h => h) (by rfl) ?_ hHeld3 ?_
          rotate_left
          · intro w hSw; (try dsimp only at hSw); go_simp; with_reducible rfl
          try simp only [Act.put, List.setIfInBounds_toArray, List.set_cons_zero, List.set_cons_succ]
          refine wpAnyH_done (by kernel_rfl) ?_ _
          go_wp2_with fail
          go_meet
          exact ⟨rfl, rfl, HV3, HB3⟩
        exact AllReadyH.nil
      exact AllReadyH.nil
    exact AllReadyH.nil
  case rest =>
    obtain ⟨rfl, rfl, HV3, HB3⟩ := hcut
    obtain ⟨s, hs⟩ : ∃ s, s = (AL.get (kb t x) now).getD ByteArray.empty := ⟨_, rfl⟩
    have hsl : s.size ≤ 1024 := by rw [hs]; exact HT.out.getD
    have hr1 := HT.out.read
    rw [← hs] at HV3 hr1
    have HR1 := Lib.hid hr1
    have HS := Lib.hid hs
    clear hs hr1 na
    go_wp2_with fail
    refine (new_r _ s wc HV3.out (by omega)).mono ?_
    rintro e w4 ⟨q, rfl, hq, hr, hb⟩
    have HQ4 := Lib.hid hr
    have HB4 := Lib.hid (HB3.out.trans (hb.mono HB3.out.size))
    have HQ := Lib.hid (show w.heap.size ≤ q from Nat.le_trans HB3.out.size hq)
    clear hq hr hb
    go_wp2_with fail
    refine (text_r q _ w4 HQ4.out).mono ?_
    rintro e w5 ⟨v5, rfl, ho, hr, hk⟩
    rw [HR1.out.1] at ho
    have HO5 := Lib.hid ho
    have HQ5 := Lib.hid hr
    have HB5 := Lib.hid (HB4.out.trans (hk.below HB4.out.size (fun i hi => by subst hi; exact HQ.out)))
    clear ho hr hk
    go_wp2_with fail
    refine (text_r q _ w5 HQ5.out).mono ?_
    rintro e w6 ⟨v6, rfl, ho, hr, hk⟩
    rw [HR1.out.2.1] at ho
    have HO6 := Lib.hid ho
    have HQ6 := Lib.hid hr
    have HO56 := Lib.hid (HO5.out.keep hk (fun k hk' h => by have := (HO5.out.base_le k hk').1; have := HQ4.out.lt; omega))
    have HB6 := Lib.hid (HB5.out.trans (hk.below HB5.out.size (fun i hi => by subst hi; exact HQ.out)))
    have HS56 := Lib.hid hk.size
    clear ho hr hk
    go_wp2_with fail
    refine (uint_r q _ w6 HQ6.out).mono ?_
    rintro e w7 ⟨rfl, hr, hk⟩
    rw [HR1.out.2.2]
    obtain ⟨a5, c5, rfl⟩ := HO5.out.size
    obtain ⟨a6, c6, rfl⟩ := HO6.out.size
    have HQ7 := Lib.hid hr
    have HO57 := Lib.hid (HO56.out.keep hk (fun k hk' h => by have := (HO56.out.base_le k hk').1; have := HQ4.out.lt; omega))
    have HO67 := Lib.hid (HO6.out.keep hk (fun k hk' h => by have := (HO6.out.base_le k hk').1; have := HQ5.out.lt; omega))
    have HB7 := Lib.hid (HB6.out.trans (hk.below HB6.out.size (fun i hi => by subst hi; exact HQ.out)))
    clear hr hk HO5 HO6 HO56 HQ4 HQ5 HQ6
    have HB8 := Lib.hid (HB7.out.alloc HB7.out.size (.cells #[.slice a5 r.body.size c5, .slice a6 r.reply.size c6, .int .u64 r.seq] 102))
    have HFF := Lib.hid (HF.out _ _ _ (HO57.out.bs.alloc (.cells #[.slice a5 r.body.size c5, .slice a6 r.reply.size c6, .int .u64 r.seq] 102)) (HO67.out.bs.alloc _) HB8.out)
    cases ok with
    | false =>
      go_wp2_with fail
      refine HFF.out.mono ?_
      rintro e w8 ⟨u, c, rfl, hp⟩
      have HP := Lib.hid hp
      clear hp
      go_wp2
      go_ret2
      exact ⟨_, _, rfl, HP.out⟩
    | true =>
      have HD := Lib.hid (done_w q _ _ (HQ7.out.below ((Below.refl w7.heap.size w7).alloc (Nat.le_refl _) (.cells #[.slice a5 r.body.size c5, .slice a6 r.reply.size c6, .int .u64 r.seq] 102))))
      have hdn := HT.out.done
      rw [← HS.out] at hdn
      rw [hdn] at HD
      clear hdn
      go_wp2_with fail
      refine HD.out.mono ?_
      rintro e w8 ⟨rfl, rfl⟩
      rw [if_neg (by decide)]
      go_wp2_with fail
      refine HFF.out.mono ?_
      rintro e w9 ⟨u, c, rfl, hp⟩
      have HP := Lib.hid hp
      clear hp
      go_wp2
      go_ret2
      exact ⟨_, _, rfl, HP.out⟩
theorem look_s_bad (p : Nat) (t : Int) (x : ByteArray) (tell : Value) (w : World) (hx : chk x = false) (hxl : x.size ≤ maxLen) :
    Calls Try.prog 59 #[sV p, .int .u32 t, .string x, tell] w fun e w' => e = .returned (.tuple #[.int .u64 0, .int .i64 1]) ∧ w = w' := by
  have HC := Lib.hid (check_i x w hxl)
  have HX := Lib.hid hx
  unfold sV pV
  clear hx hxl
  go_enter Try.func59, Try.ntmps59
  go_wp2_with fail
  refine HC.out.mono ?_
  rintro e w1 ⟨rfl, rfl⟩
  rw [HX.out]
  go_wp2
  go_ret2
  exact ⟨rfl, rfl⟩
theorem look_s (p : Nat) (room : Int) (b1 b2 : Nat) (now was : AL) (t : Int) (h0 : 0 ≤ t) (h1 : t ≤ 4294967295) (x : ByteArray) (hx : chk x = true) (w : World) (hM : MemIs w p room b1 b2 now was) (r : Rec) (ok : Bool) (hT : Told (AL.get (kb t x) now) r ok)
    (Post : Value → Int → World → Prop)
    (hF : ∀ W bv rv, BS W bv r.body → BS W rv r.reply → Below w.heap.size w W → Calls Try.prog 60 #[.agg #[bv, rv, .int .u64 r.seq], .bool ok ] W fun e W' => ∃ u c, e = .returned (.tuple #[u, .int .i64 c]) ∧ Post u c W') :
    Calls Try.prog 59 #[sV p, .int .u32 t, .string x, .func (Fn.func 60) #[] #[]] w fun e w' => ∃ u c, e = .returned (.tuple #[u, .int .i64 c]) ∧ Post u c w' := by
  have hxl : x.size ≤ 16 := by unfold chk at hx; simp at hx; omega
  have HC := Lib.hid (check_i x w (by unfold maxLen; omega))
  have HX := Lib.hid hx
  have HM := Lib.hid hM
  have HMd := Lib.hid (show MemIs w.drew p room b1 b2 now was from hM.below ((Below.refl _ _).drew))
  have HT := Lib.hid hT
  have HF := Lib.hid hF
  have HK := Lib.hid fun W => key_i t h0 h1 x (by omega) W
  have na := nil_get p
  unfold sV pV
  clear hx hM hT hF hxl
  go_enter Try.func59, Try.ntmps59
  go_wp2_with fail
  refine HC.out.mono ?_
  rintro e w1 ⟨rfl, rfl⟩
  rw [HX.out]
  go_upto_region 4 with fail
  go_cut [11, 12, 13] (fun s11 s12 s13 wx => s12 = .bool ok ∧ s13 = .int .i64 0 ∧ Hid (BS wx s11 ((AL.get (kb t x) now).getD ByteArray.empty)) ∧ Hid (Below w.heap.size w wx))
  case first =>
    refine wp_region_held_drew (S := (fun _ => True)) (by kernel_rfl) ?_ (fun hHeld0 => ?_)
    · dsimp only
    refine takeN (v := ?_) 0 rfl (by kernel_rfl) (by kernel_rfl) (by kernel_rfl) (fun _ _ _ h => h) (by rfl) ?_ hHeld0 ?_
    rotate_left
    · intro w hSw; (try dsimp only at hSw); go_simp; with_reducible rfl
    try simp only [Act.put, List.setIfInBounds_toArray, List.set_cons_zero, List.set_cons_succ]
    refine takeN (v := ?_) 1 rfl (by kernel_rfl) (by kernel_rfl) (by kernel_rfl) (fun _ _ _ h => h) (by rfl) ?_ hHeld0 ?_
    rotate_left
    · intro w hSw; (try dsimp only at hSw); go_simp; with_reducible rfl
    try simp only [Act.put, List.setIfInBounds_toArray, List.set_cons_zero, List.set_cons_succ]
    refine takeN (v := ?_) 2 rfl (by kernel_rfl) (by kernel_rfl) (by kernel_rfl) (fun _ _ _ h => h) (by rfl) ?_ hHeld0 ?_
    rotate_left
    · intro w hSw; (try dsimp only at hSw); go_simp; with_reducible rfl
    try simp only [Act.put, List.setIfInBounds_toArray, List.set_cons_zero, List.set_cons_succ]
    refine wpAnyH_ready (rs := [3, 4]) (by kernel_rfl) (by simp) ?_
    refine readyN rfl (fun K hK => ?_) ?_
    · -- operation 3
      go_simp
      first
        | (go_at_call 56; refine (HK.out _).mono ?_; rintro e w2 ⟨v2, rfl, ho, hb⟩
           have HO2 := Lib.hid ho.bs
           have HB2 := Lib.hid (show Below w.heap.size w w2 from ((Below.refl w.heap.size w).drew).trans hb)
           clear ho hb)
        | (go_at_call 18; refine (get_any p room b1 b2 now was v2 (kb t x) w2 (HM.out.below HB2.out) HO2.out (fun v hv => by have := HT.out.getD; rw [hv, Option.getD_some] at this; omega)).mono ?_; rintro e w3 ⟨v3, rfl, hm3, hb3⟩
           rw [HT.out.isSome]
           have HV3 := Lib.hid hm3.1
           have HB3 := Lib.hid (HB2.out.trans (hb3.mono HB2.out.size))
           clear hm3 hb3)
      go_wp2_with fail
      refine hK.out _ _ ?_ (fun hHeld1 => ?_)
      · dsimp only
      clear hK K hHeld0
      try simp only [Act.put, List.setIfInBounds_toArray, List.set_cons_zero, List.set_cons_succ]
      refine wpAnyH_ready (rs := [4]) (by kernel_rfl) (by simp) ?_
      refine readyN rfl (fun K hK => ?_) ?_
      · -- operation 4
        go_simp
        refine hK.out _ _ ?_ (fun hHeld2 => ?_)
        · dsimp only
        clear hK K hHeld1
        try simp only [Act.put, List.setIfInBounds_toArray, List.set_cons_zero, List.set_cons_succ]
        refine takeN (v := ?_) 5 rfl (by kernel_rfl) (by kernel_rfl) (by kernel_rfl) (fun _ _ _ h => h) (by rfl) ?_ hHeld2 ?_
        rotate_left
        · intro w hSw; (try dsimp only at hSw); go_simp; with_reducible rfl
        try simp only [Act.put, List.setIfInBounds_toArray, List.set_cons_zero, List.set_cons_succ]
        refine takeN (v := ?_) 6 rfl (by kernel_rfl) (by kernel_rfl) (by kernel_rfl) (fun _ _ _ h => h) (by rfl) ?_ hHeld2 ?_
        rotate_left
        · intro w hSw; (try dsimp only at hSw); go_simp; with_reducible rfl
        try simp only [Act.put, List.setIfInBounds_toArray, List.set_cons_zero, List.set_cons_succ]
        refine wpAnyH_ready (rs := [7]) (by kernel_rfl) (by simp) ?_
        refine readyN rfl (fun K hK => ?_) ?_
        · -- operation 7
          go_simp
          go_wp2_with (
              first
                | (go_at_call 56; refine (HK.out _).mono ?_; rintro e w2 ⟨v2, rfl, ho, hb⟩
                   have HO2 := Lib.hid ho.bs
                   have HB2 := Lib.hid (show Below w.heap.size w w2 from ((Below.refl w.heap.size w).drew).trans hb)
                   clear ho hb)
                | (go_at_call 18; refine (get_any p room b1 b2 now was v2 (kb t x) w2 (HM.out.below HB2.out) HO2.out (fun v hv => by have := HT.out.getD; rw [hv, Option.getD_some] at this; omega)).mono ?_; rintro e w3 ⟨v3, rfl, hm3, hb3⟩
                   rw [HT.out.isSome]
                   have HV3 := Lib.hid hm3.1
                   have HB3 := Lib.hid (HB2.out.trans (hb3.mono HB2.out.size))
                   clear hm3 hb3))
          refine hK.out _ _ ?_ (fun hHeld3 => ?_)
          · dsimp only
          clear hK K hHeld2
          try simp only [Act.put, List.setIfInBounds_toArray, List.set_cons_zero, List.set_cons_succ]
          refine takeN (v := ?_) 8 rfl (by kernel_rfl) (by kernel_rfl) (by kernel_rfl) (fun _ _ _ h => h) (by rfl) ?_ hHeld3 ?_
          rotate_left
          · intro w hSw; (try dsimp only at hSw); go_simp; with_reducible rfl
          try simp only [Act.put, List.setIfInBounds_toArray, List.set_cons_zero, List.set_cons_succ]
          refine takeN (v := ?_) 9 rfl (by kernel_rfl) (by kernel_rfl) (by kernel_rfl) (fun _ _ _ h => h) (by rfl) ?_ hHeld3 ?_
          rotate_left
          · intro w hSw; (try dsimp only at hSw); go_simp; with_reducible rfl
          try simp only [Act.put, List.setIfInBounds_toArray, List.set_cons_zero, List.set_cons_succ]
          refine takeN (v := ?_) 10 rfl (by kernel_rfl) (by kernel_rfl) (by kernel_rfl) (fun _ _ _ h => h) (by rfl) ?_ hHeld3 ?_
          rotate_left
          · intro w hSw; (try dsimp only at hSw); go_simp; with_reducible rfl
          try simp only [Act.put, List.setIfInBounds_toArray, List.set_cons_zero, List.set_cons_succ]
          refine takeN (v := ?_) 11 rfl (by kernel_rfl) (by kernel_rfl) (by kernel_rfl) (fun _ _ _ h => h) (by rfl) ?_ hHeld3 ?_
          rotate_left
          · intro w hSw; (try dsimp only at hSw); go_simp; with_reducible rfl
          try simp only [Act.put, List.setIfInBounds_toArray, List.set_cons_zero, List.set_cons_succ]
          refine takeN (v := ?_) 12 rfl (by kernel_rfl) (by kernel_rfl) (by kernel_rfl) (fun _ _ _ h => h) (by rfl) ?_ hHeld3 ?_
          rotate_left
          · intro w hSw; (try dsimp only at hSw); go_simp; with_reducible rfl
          try simp only [Act.put, List.setIfInBounds_toArray, List.set_cons_zero, List.set_cons_succ]
          refine takeN (v := ?_) 13 rfl (by kernel_rfl) (by kernel_rfl) (by kernel_rfl) (fun _ _ _ h => h) (by rfl) ?_ hHeld3 ?_
          rotate_left
          · intro w hSw; (try dsimp only at hSw); go_simp; with_reducible rfl
          try simp only [Act.put, List.setIfInBounds_toArray, List.set_cons_zero, List.set_cons_succ]
          refine takeN (v := ?_) 14 rfl (by kernel_rfl) (by kernel_rfl) (by kernel_rfl) (fun _ _ _ h => h) (by rfl) ?_ hHeld3 ?_
          rotate_left
          · intro w hSw; (try dsimp only at hSw); go_simp; with_reducible rfl
          try simp only [Act.put, List.setIfInBounds_toArray, List.set_cons_zero, List.set_cons_succ]
          refine wpAnyH_done (by kernel_rfl) ?_ _
          go_wp2_with fail
          go_meet
          exact ⟨rfl, rfl, HV3, HB3⟩
        exact AllReadyH.nil
      exact AllReadyH.nil
    refine readyN rfl (fun K hK => ?_) ?_
    · -- operation 4
      go_simp
      refine hK.out _ _ ?_ (fun hHeld1 => ?_)
      · dsimp only
      clear hK K hHeld0
      try simp only [Act.put, List.setIfInBounds_toArray, List.set_cons_zero, List.set_cons_succ]
      refine takeN (v := ?_) 5 rfl (by kernel_rfl) (by kernel_rfl) (by kernel_rfl) (fun _ _ _ h => h) (by rfl) ?_ hHeld1 ?_
      rotate_left
      · intro w hSw; (try dsimp only at hSw); go_simp; with_reducible rfl
      try simp only [Act.put, List.setIfInBounds_toArray, List.set_cons_zero, List.set_cons_succ]
      refine takeN (v := ?_) 6 rfl (by kernel_rfl) (by kernel_rfl) (by kernel_rfl) (fun _ _ _ h => h) (by rfl) ?_ hHeld1 ?_
      rotate_left
      · intro w hSw; (try dsimp only at hSw); go_simp; with_reducible rfl
      try simp only [Act.put, List.setIfInBounds_toArray, List.set_cons_zero, List.set_cons_succ]
      refine wpAnyH_ready (rs := [3]) (by kernel_rfl) (by simp) ?_
      refine readyN rfl (fun K hK => ?_) ?_
      · -- operation 3
        go_simp
        first
          | (go_at_call 56; refine (HK.out _).mono ?_; rintro e w2 ⟨v2, rfl, ho, hb⟩
             have HO2 := Lib.hid ho.bs
             have HB2 := Lib.hid (show Below w.heap.size w w2 from ((Below.refl w.heap.size w).drew).trans hb)
             clear ho hb)
          | (go_at_call 18; refine (get_any p room b1 b2 now was v2 (kb t x) w2 (HM.out.below HB2.out) HO2.out (fun v hv => by have := HT.out.getD; rw [hv, Option.getD_some] at this; omega)).mono ?_; rintro e w3 ⟨v3, rfl, hm3, hb3⟩
             rw [HT.out.isSome]
             have HV3 := Lib.hid hm3.1
             have HB3 := Lib.hid (HB2.out.trans (hb3.mono HB2.out.size))
             clear hm3 hb3)
        go_wp2_with fail
        refine hK.out _ _ ?_ (fun hHeld2 => ?_)
        · dsimp only
        clear hK K hHeld1
        try simp only [Act.put, List.setIfInBounds_toArray, List.set_cons_zero, List.set_cons_succ]
        refine wpAnyH_ready (rs := [7]) (by kernel_rfl) (by simp) ?_
        refine readyN rfl (fun K hK => ?_) ?_
        · -- operation 7
          go_simp
          go_wp2_with (
              first
                | (go_at_call 56; refine (HK.out _).mono ?_; rintro e w2 ⟨v2, rfl, ho, hb⟩
                   have HO2 := Lib.hid ho.bs
                   have HB2 := Lib.hid (show Below w.heap.size w w2 from ((Below.refl w.heap.size w).drew).trans hb)
                   clear ho hb)
                | (go_at_call 18; refine (get_any p room b1 b2 now was v2 (kb t x) w2 (HM.out.below HB2.out) HO2.out (fun v hv => by have := HT.out.getD; rw [hv, Option.getD_some] at this; omega)).mono ?_; rintro e w3 ⟨v3, rfl, hm3, hb3⟩
                   rw [HT.out.isSome]
                   have HV3 := Lib.hid hm3.1
                   have HB3 := Lib.hid (HB2.out.trans (hb3.mono HB2.out.size))
                   clear hm3 hb3))
          refine hK.out _ _ ?_ (fun hHeld3 => ?_)
          · dsimp only
          clear hK K hHeld2
          try simp only [Act.put, List.setIfInBounds_toArray, List.set_cons_zero, List.set_cons_succ]
          refine takeN (v := ?_) 8 rfl (by kernel_rfl) (by kernel_rfl) (by kernel_rfl) (fun _ _ _ h => h) (by rfl) ?_ hHeld3 ?_
          rotate_left
          · intro w hSw; (try dsimp only at hSw); go_simp; with_reducible rfl
          try simp only [Act.put, List.setIfInBounds_toArray, List.set_cons_zero, List.set_cons_succ]
          refine takeN (v := ?_) 9 rfl (by kernel_rfl) (by kernel_rfl) (by kernel_rfl) (fun _ _ _ h => h) (by rfl) ?_ hHeld3 ?_
          rotate_left
          · intro w hSw; (try dsimp only at hSw); go_simp; with_reducible rfl
          try simp only [Act.put, List.setIfInBounds_toArray, List.set_cons_zero, List.set_cons_succ]
          refine takeN (v := ?_) 10 rfl (by kernel_rfl) (by kernel_rfl) (by kernel_rfl) (fun _ _ _ h => h) (by rfl) ?_ hHeld3 ?_
          rotate_left
          · intro w hSw; (try dsimp only at hSw); go_simp; with_reducible rfl
          try simp only [Act.put, List.setIfInBounds_toArray, List.set_cons_zero, List.set_cons_succ]
          refine takeN (v := ?_) 11 rfl (by kernel_rfl) (by kernel_rfl) (by kernel_rfl) (fun _ _ _ h => h) (by rfl) ?_ hHeld3 ?_
          rotate_left
          · intro w hSw; (try dsimp only at hSw); go_simp; with_reducible rfl
          try simp only [Act.put, List.setIfInBounds_toArray, List.set_cons_zero, List.set_cons_succ]
          refine takeN (v := ?_) 12 rfl (by kernel_rfl) (by kernel_rfl) (by kernel_rfl) (fun _ _ _ h => h) (by rfl) ?_ hHeld3 ?_
          rotate_left
          · intro w hSw; (try dsimp only at hSw); go_simp; with_reducible rfl
          try simp only [Act.put, List.setIfInBounds_toArray, List.set_cons_zero, List.set_cons_succ]
          refine takeN (v := ?_) 13 rfl (by kernel_rfl) (by kernel_rfl) (by kernel_rfl) (fun _ _ _ h => h) (by rfl) ?_ hHeld3 ?_
          rotate_left
          · intro w hSw; (try dsimp only at hSw); go_simp; with_reducible rfl
          try simp only [Act.put, List.setIfInBounds_toArray, List.set_cons_zero, List.set_cons_succ]
          refine takeN (v := ?_) 14 rfl (by kernel_rfl) (by kernel_rfl) (by kernel_rfl) (fun _ _ _ h => h) (by rfl) ?_ hHeld3 ?_
          rotate_left
          · intro w hSw; (try dsimp only at hSw); go_simp; with_reducible rfl
          try simp only [Act.put, List.setIfInBounds_toArray, List.set_cons_zero, List.set_cons_succ]
          refine wpAnyH_done (by kernel_rfl) ?_ _
          go_wp2_with fail
          go_meet
          exact ⟨rfl, rfl, HV3, HB3⟩
        exact AllReadyH.nil
      exact AllReadyH.nil
    exact AllReadyH.nil
  case rest =>
    obtain ⟨rfl, rfl, HV3, HB3⟩ := hcut
    obtain ⟨s, hs⟩ : ∃ s, s = (AL.get (kb t x) now).getD ByteArray.empty := ⟨_, rfl⟩
    have hsl : s.size ≤ 1024 := by rw [hs]; exact HT.out.getD
    have hr1 := HT.out.read
    rw [← hs] at HV3 hr1
    have HR1 := Lib.hid hr1
    have HS := Lib.hid hs
    clear hs hr1 na
    go_wp2_with fail
    refine (new_r _ s wc HV3.out (by omega)).mono ?_
    rintro e w4 ⟨q, rfl, hq, hr, hb⟩
    have HQ4 := Lib.hid hr
    have HB4 := Lib.hid (HB3.out.trans (hb.mono HB3.out.size))
    have HQ := Lib.hid (show w.heap.size ≤ q from Nat.le_trans HB3.out.size hq)
    clear hq hr hb
    go_wp2_with fail
    refine (text_r q _ w4 HQ4.out).mono ?_
    rintro e w5 ⟨v5, rfl, ho, hr, hk⟩
    rw [HR1.out.1] at ho
    have HO5 := Lib.hid ho
    have HQ5 := Lib.hid hr
    have HB5 := Lib.hid (HB4.out.trans (hk.below HB4.out.size (fun i hi => by subst hi; exact HQ.out)))
    clear ho hr hk
    go_wp2_with fail
    refine (text_r q _ w5 HQ5.out).mono ?_
    rintro e w6 ⟨v6, rfl, ho, hr, hk⟩
    rw [HR1.out.2.1] at ho
    have HO6 := Lib.hid ho
    have HQ6 := Lib.hid hr
    have HO56 := Lib.hid (HO5.out.keep hk (fun k hk' h => by have := (HO5.out.base_le k hk').1; have := HQ4.out.lt; omega))
    have HB6 := Lib.hid (HB5.out.trans (hk.below HB5.out.size (fun i hi => by subst hi; exact HQ.out)))
    have HS56 := Lib.hid hk.size
    clear ho hr hk
    go_wp2_with fail
    refine (uint_r q _ w6 HQ6.out).mono ?_
    rintro e w7 ⟨rfl, hr, hk⟩
    rw [HR1.out.2.2]
    obtain ⟨a5, c5, rfl⟩ := HO5.out.size
    obtain ⟨a6, c6, rfl⟩ := HO6.out.size
    have HQ7 := Lib.hid hr
    have HO57 := Lib.hid (HO56.out.keep hk (fun k hk' h => by have := (HO56.out.base_le k hk').1; have := HQ4.out.lt; omega))
    have HO67 := Lib.hid (HO6.out.keep hk (fun k hk' h => by have := (HO6.out.base_le k hk').1; have := HQ5.out.lt; omega))
    have HB7 := Lib.hid (HB6.out.trans (hk.below HB6.out.size (fun i hi => by subst hi; exact HQ.out)))
    clear hr hk HO5 HO6 HO56 HQ4 HQ5 HQ6
    have HB8 := Lib.hid (HB7.out.alloc HB7.out.size (.cells #[.slice a5 r.body.size c5, .slice a6 r.reply.size c6, .int .u64 r.seq] 102))
    have HFF := Lib.hid (HF.out _ _ _ (HO57.out.bs.alloc (.cells #[.slice a5 r.body.size c5, .slice a6 r.reply.size c6, .int .u64 r.seq] 102)) (HO67.out.bs.alloc _) HB8.out)
    cases ok with
    | false =>
      go_wp2_with fail
      refine HFF.out.mono ?_
      rintro e w8 ⟨u, c, rfl, hp⟩
      have HP := Lib.hid hp
      clear hp
      go_wp2
      go_ret2
      exact ⟨_, _, rfl, HP.out⟩
    | true =>
      have HD := Lib.hid (done_w q _ _ (HQ7.out.below ((Below.refl w7.heap.size w7).alloc (Nat.le_refl _) (.cells #[.slice a5 r.body.size c5, .slice a6 r.reply.size c6, .int .u64 r.seq] 102))))
      have hdn := HT.out.done
      rw [← HS.out] at hdn
      rw [hdn] at HD
      clear hdn
      go_wp2_with fail
      refine HD.out.mono ?_
      rintro e w8 ⟨rfl, rfl⟩
      rw [if_neg (by decide)]
      go_wp2_with fail
      refine HFF.out.mono ?_
      rintro e w9 ⟨u, c, rfl, hp⟩
      have HP := Lib.hid hp
      clear hp
      go_wp2
      go_ret2
      exact ⟨_, _, rfl, HP.out⟩
end Go.Proofs.Ytiadoimdohnebaa
