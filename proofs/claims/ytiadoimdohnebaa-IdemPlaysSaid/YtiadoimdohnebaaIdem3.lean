/- The walks of idem.Seq and idem.Keep over a store in memory. -/
import Derived.Test.YtiadoimdohnebaaIdem2
namespace Go.Proofs.Ytiadoimdohnebaa
open Go.RowKit
set_option maxRecDepth 100000
set_option linter.unusedVariables false
set_option linter.unusedSimpArgs false
set_option maxHeartbeats 4000000
theorem seqc (bv rv : Value) (r : Rec) (ok : Bool) (w : World) (hb : BS w bv r.body) (hr : BS w rv r.reply) :
    Calls Try.prog 60 #[.agg #[bv, rv, .int .u64 r.seq], .bool ok] w fun e w' => e = .returned (.tuple #[.int .u64 (if ok = true then r.seq else 0), .int .i64 (if ok = true then 0 else 4)]) ∧ Below w.heap.size w w' := by
  obtain ⟨a1, c1, rfl⟩ := hb.len
  obtain ⟨a2, c2, rfl⟩ := hr.len
  obtain ⟨sq, hsq⟩ : ∃ sq, sq = r.seq := ⟨_, rfl⟩
  rw [← hsq]
  clear hb hr hsq
  cases ok with
  | false =>
    go_enter Try.func60, Try.ntmps60
    go_wp2
    go_ret2
    exact ⟨rfl, (Below.refl _ _).alloc (Nat.le_refl _) _⟩
  | true =>
    go_enter Try.func60, Try.ntmps60
    go_wp2
    go_ret2
    exact ⟨rfl, (Below.refl _ _).alloc (Nat.le_refl _) _⟩
def seqR (F : IxF) (t : Int) (x : ByteArray) : Int × Int := if chk x = false then (0, 1) else match F t x with | none => (0, 4) | some r => (r.seq, 0)
theorem seq_any (p : Nat) (room : Int) (b1 b2 : Nat) (now was : AL) (F : IxF) (t : Int) (h0 : 0 ≤ t) (h1 : t ≤ 4294967295) (x : ByteArray) (w : World) (hM : MemIs w p room b1 b2 now was) (hI : Idx now F) (hx : x.size ≤ maxLen) :
    Calls Try.prog 36 #[sV p, .int .u32 t, .string x] w fun e w' => e = .returned (.tuple #[.int .u64 (seqR F t x).1, .int .i64 (seqR F t x).2]) ∧ Below w.heap.size w w' := by
  cases hch : chk x with
  | false =>
    have E := Lib.hid (show seqR F t x = (0, 1) by unfold seqR; rw [if_pos hch])
    rw [E.out]
    have HL := Lib.hid (look_s_bad p t x (.func (Fn.func 60) #[] #[]) w hch hx)
    unfold sV pV at *
    clear hM hI hch
    go_enter Try.func36, Try.ntmps36
    go_wp2_with fail
    refine HL.out.mono ?_
    rintro e w1 ⟨rfl, rfl⟩
    go_wp2
    go_ret2
    exact ⟨rfl, Below.refl _ _⟩
  | true =>
    have E := Lib.hid (show seqR F t x = (if (F t x).isSome = true then (recD (F t x)).seq else 0, if (F t x).isSome = true then 0 else 4) by
      unfold seqR
      rw [hch, if_neg (by decide)]
      cases F t x <;> rfl)
    rw [E.out]
    have HL := Lib.hid (look_s p room b1 b2 now was t h0 h1 x hch w hM (recD (F t x)) (F t x).isSome (hI.told h0 h1 hch)
      (fun u c W' => u = .int .u64 (if (F t x).isSome = true then (recD (F t x)).seq else 0) ∧ c = (if (F t x).isSome = true then 0 else 4) ∧ Below w.heap.size w W')
      (fun W bv rv hbv hrv hW => by
        refine (seqc bv rv (recD (F t x)) (F t x).isSome W hbv hrv).mono ?_
        rintro e W' ⟨rfl, g⟩
        exact ⟨_, _, rfl, rfl, rfl, hW.trans (g.mono hW.size)⟩))
    obtain ⟨u0, hu0⟩ : ∃ u0, u0 = (if (F t x).isSome = true then (recD (F t x)).seq else 0) := ⟨_, rfl⟩
    obtain ⟨c0, hc0⟩ : ∃ c0 : Int, c0 = (if (F t x).isSome = true then 0 else 4) := ⟨_, rfl⟩
    rw [← hu0, ← hc0] at HL ⊢
    unfold sV pV at *
    clear hM hI hch E hu0 hc0
    go_enter Try.func36, Try.ntmps36
    go_wp2_with fail
    refine HL.out.mono ?_
    rintro e w1 ⟨u, c, rfl, rfl, rfl, g⟩
    have G := Lib.hid g
    clear g HL
    go_wp2
    go_ret2
    exact ⟨rfl, G.out⟩
/-! ### Keep -/
def keepC (room : Int) (now : AL) (t : Int) (x : ByteArray) (r : Rec) (ok : Bool) : Int := if ok = true then 5 else if 900 < r.body.size + r.reply.size then 2 else putE room now (kb t x) r.enc
def keepN (room : Int) (now : AL) (t : Int) (x : ByteArray) (r : Rec) (ok : Bool) : AL := if keepC room now t x r ok = 0 then AL.put (kb t x) r.enc now else now
theorem keepc (q1 q2 q3 q4 q5 q6 p : Nat) (room : Int) (b1 b2 : Nat) (now was : AL) (bv0 rv0 bv rv : Value) (r0 r : Rec) (t : Int) (h0 : 0 ≤ t) (h1 : t ≤ 4294967295) (x : ByteArray) (hx : x.size ≤ 16) (hs : 0 ≤ r.seq ∧ r.seq ≤ 18446744073709551615) (ok : Bool) (w : World)
    (hb0 : BS w bv0 r0.body) (hr0 : BS w rv0 r0.reply) (hb : BS w bv r.body) (hr : BS w rv r.reply) (hbl : r.body.size ≤ 17592186044416) (hrl : r.reply.size ≤ 17592186044416)
    (hM : MemIs w p room b1 b2 now was) (hl : now.length ≤ 9223372036854775807)
    (k1 : w.cell? ⟨q1, 0, none⟩ = some bv) (k2 : w.cell? ⟨q2, 0, none⟩ = some rv) (k3 : w.cell? ⟨q3, 0, none⟩ = some (sV p)) (k4 : w.cell? ⟨q4, 0, none⟩ = some (.int .u32 t)) (k5 : w.cell? ⟨q5, 0, none⟩ = some (.string x)) (k6 : w.cell? ⟨q6, 0, none⟩ = some (.int .u64 r.seq)) :
    Calls Try.prog 55 #[.agg #[bv0, rv0, .int .u64 r0.seq], .bool ok, .pointer (some ⟨q1, 0, none⟩), .pointer (some ⟨q2, 0, none⟩), .pointer (some ⟨q3, 0, none⟩), .pointer (some ⟨q4, 0, none⟩), .pointer (some ⟨q5, 0, none⟩), .pointer (some ⟨q6, 0, none⟩)] w fun e w' =>
      ∃ u, e = .returned (.tuple #[u, .int .i64 (keepC room now t x r ok)]) ∧ MemIs w' p room b1 b2 (keepN room now t x r ok) was ∧ Keep (fun i => i = b1) w w' := by
  obtain ⟨a1, c1, rfl⟩ := hb0.len
  obtain ⟨a2, c2, rfl⟩ := hr0.len
  obtain ⟨a3, c3, rfl⟩ := hb.len
  obtain ⟨a4, c4, rfl⟩ := hr.len
  obtain ⟨O, hO⟩ : ∃ O, O = Obj.cells #[.slice a1 r0.body.size c1, .slice a2 r0.reply.size c2, .int .u64 r0.seq] 102 (0, 0) := ⟨_, rfl⟩
  have HM := Lib.hid hM
  have HMO := Lib.hid (hM.alloc O)
  have e3 : sV p = .iface 29 (.pointer (some ⟨p, 0, none⟩)) := rfl
  rw [e3] at k3
  clear e3
  cases ok with
  | true =>
    have E := Lib.hid (show keepC room now t x r true = 5 from rfl)
    have EN := Lib.hid (show keepN room now t x r true = now by unfold keepN; rw [E.out]; rfl)
    rw [E.out, EN.out]
    rw [hO] at HMO
    clear hb0 hr0 hb hr hM k1 k2 k3 k4 k5 k6 hO
    go_enter Try.func55, Try.ntmps55
    go_wp2
    go_ret2
    exact ⟨_, rfl, HMO.out, (Keep.refl _ _).alloc _⟩
  | false =>
    have hk := ((Keep.refl (fun _ => False) w).alloc O)
    have k1' := hk.cell k1 (fun h => h)
    have k2' := hk.cell k2 (fun h => h)
    by_cases hlong : 900 < r.body.size + r.reply.size
    · have E := Lib.hid (show keepC room now t x r false = 2 by unfold keepC; rw [if_neg (by decide), if_pos hlong])
      have EN := Lib.hid (show keepN room now t x r false = now by unfold keepN; rw [E.out]; rfl)
      rw [E.out, EN.out]
      rw [hO] at HMO k1' k2'
      have i1 : decide ((900 : Int) < (r.body.size : Int) + (r.reply.size : Int)) = true := decide_eq_true (by omega)
      have i2 : (900 : Int) < (r.body.size : Int) + (r.reply.size : Int) := by omega
      clear hb0 hr0 hb hr hM k1 k2 k3 k4 k5 k6 hO hk hlong
      go_enter Try.func55, Try.ntmps55
      go_wp2
      go_ret2
      exact ⟨_, rfl, HMO.out, (Keep.refl _ _).alloc _⟩
    · have E := Lib.hid (show keepC room now t x r false = putE room now (kb t x) r.enc by unfold keepC; rw [if_neg (by decide), if_neg hlong])
      have EN := Lib.hid (show keepN room now t x r false = putA room now (kb t x) r.enc by unfold keepN putA; rw [E.out])
      rw [E.out, EN.out]
      have i2 : ¬ (900 : Int) < (r.body.size : Int) + (r.reply.size : Int) := by omega
      have hlo : r.body.size + r.reply.size ≤ 900 := by omega
      have hkd : Keep (fun _ => False) w (w.alloc O).drew := hk.drew
      have s0 := And.intro (hkd.cell k1 (fun h => h)) (And.intro (hkd.cell k2 (fun h => h)) (And.intro (hkd.cell k3 (fun h => h)) (And.intro (hkd.cell k4 (fun h => h)) (And.intro (hkd.cell k5 (fun h => h)) (hkd.cell k6 (fun h => h))))))
      have SS := Lib.hid fun (F : Nat → Prop) (W : World) (hb : Keep F (w.alloc O).drew W) (n1 : ¬ F q1) (n2 : ¬ F q2) (n3 : ¬ F q3) (n4 : ¬ F q4) (n5 : ¬ F q5) (n6 : ¬ F q6) =>
        And.intro (hb.cell s0.1 n1) (And.intro (hb.cell s0.2.1 n2) (And.intro (hb.cell s0.2.2.1 n3) (And.intro (hb.cell s0.2.2.2.1 n4) (And.intro (hb.cell s0.2.2.2.2.1 n5) (hb.cell s0.2.2.2.2.2 n6)))))
      have nb : ∀ q v, w.cell? ⟨q, 0, none⟩ = some v → ¬ q = b1 := fun q v h e => by subst e; rw [hM.now.nocell] at h; cases h
      have NB := Lib.hid (And.intro (nb _ _ k1) (And.intro (nb _ _ k2) (And.intro (nb _ _ k3) (And.intro (nb _ _ k4) (And.intro (nb _ _ k5) (nb _ _ k6))))))
      have S0 := Lib.hid s0
      have HB := Lib.hid (show BS (w.alloc O).drew _ r.body from (hb.alloc O))
      have HR := Lib.hid (show BS (w.alloc O).drew _ r.reply from (hr.alloc O))
      have HKD := Lib.hid hkd
      have HMD := Lib.hid (show MemIs (w.alloc O).drew p room b1 b2 now was from (hM.alloc O).below ((Below.refl _ _).drew))
      have na := nil_put p
      have HKY := Lib.hid fun W => key_i t h0 h1 x (by omega) W
      clear hb0 hr0 hb hr hM k1 k2 k3 k4 k5 k6 hk hlong s0 nb hkd
      subst hO
      go_enter Try.func55, Try.ntmps55
      go_wp2_with fail
      go_upto_region 5 with fail
      refine wp_region_held_drew (S := (fun w' => w'.cell? ⟨q1, 0, none⟩ = some (.slice a3 r.body.size c3) ∧ w'.cell? ⟨q2, 0, none⟩ = some (.slice a4 r.reply.size c4) ∧ w'.cell? ⟨q3, 0, none⟩ = some (.iface 29 (.pointer (some ⟨p, 0, none⟩))) ∧ w'.cell? ⟨q4, 0, none⟩ = some (.int .u32 t) ∧ w'.cell? ⟨q5, 0, none⟩ = some (.string x) ∧ w'.cell? ⟨q6, 0, none⟩ = some (.int .u64 r.seq))) (by kernel_rfl) ?_ (fun hHeld0 => ?_)
      · (try dsimp only)
        first | exact S0.out | exact SZ5 | exact SZ4 | exact SZ3 | exact SZ2 | exact SZ1
      refine takeN (v := ?_) 0 rfl (by kernel_rfl) (by kernel_rfl) (by kernel_rfl) (fun _ _ _ h => h) (by rfl) ?_ hHeld0 ?_
      rotate_left
      · intro w hSw; (try dsimp only at hSw); go_simp; with_reducible rfl
      try simp only [Act.put, List.setIfInBounds_toArray, List.set_cons_zero, List.set_cons_succ]
      refine takeN (v := ?_) 1 rfl (by kernel_rfl) (by kernel_rfl) (by kernel_rfl) (fun _ _ _ h => h) (by rfl) ?_ hHeld0 ?_
      rotate_left
      · intro w hSw; (try dsimp only at hSw); go_simp; with_reducible rfl
      try simp only [Act.put, List.setIfInBounds_toArray, List.set_cons_zero, List.set_cons_succ]
      refine takeN (v := ?_) 2 rfl (by kernel_rfl) (by kernel_rfl) (by kernel_rfl) (fun _ _ _ h => h) (by rfl) ?_ hHeld0 ?_
      rotate_left
      · intro w hSw; (try dsimp only at hSw); go_simp; with_reducible rfl
      try simp only [Act.put, List.setIfInBounds_toArray, List.set_cons_zero, List.set_cons_succ]
      refine takeN (v := ?_) 4 rfl (by kernel_rfl) (by kernel_rfl) (by kernel_rfl) (fun _ _ _ h => h) (by rfl) ?_ hHeld0 ?_
      rotate_left
      · intro w hSw; (try dsimp only at hSw); go_simp; with_reducible rfl
      try simp only [Act.put, List.setIfInBounds_toArray, List.set_cons_zero, List.set_cons_succ]
      refine takeN (v := ?_) 6 rfl (by kernel_rfl) (by kernel_rfl) (by kernel_rfl) (fun _ _ _ h => h) (by rfl) ?_ hHeld0 ?_
      rotate_left
      · intro w hSw; (try dsimp only at hSw); go_simp; with_reducible rfl
      try simp only [Act.put, List.setIfInBounds_toArray, List.set_cons_zero, List.set_cons_succ]
      refine takeN (v := ?_) 8 rfl (by kernel_rfl) (by kernel_rfl) (by kernel_rfl) (fun _ _ _ h => h) (by rfl) ?_ hHeld0 ?_
      rotate_left
      · intro w hSw; (try dsimp only at hSw); go_simp; with_reducible rfl
      try simp only [Act.put, List.setIfInBounds_toArray, List.set_cons_zero, List.set_cons_succ]
      refine wpAnyH_ready (rs := [3, 10]) (by kernel_rfl) (by simp) ?_
      refine readyN rfl (fun K hK => ?_) ?_
      · -- operation 3
        go_simp
        first
          | (go_at_call 56; refine (HKY.out _).mono ?_; rintro e w1 ⟨v1, rfl, ho, hb⟩
             have B1 := Lib.hid hb
             have O1 := Lib.hid ho.bs
             have SZ1 := SS.out (fun _ => False) w1 (Keep.ofBelow hb _) (fun h => h) (fun h => h) (fun h => h) (fun h => h) (fun h => h) (fun h => h)
             clear ho hb)
          | (go_at_call_of 58 (Value.slice a3 r.body.size c3); refine (text_w (.slice none 0 0) _ ByteArray.empty r.body w1 (BS.nil _) (HB.out.below B1.out) (by decide) (by omega)).mono ?_; rintro e w2 ⟨v2, rfl, ho, hb⟩
             have B2 := Lib.hid (below_and B1.out hb)
             have O12 := Lib.hid (O1.out.below hb)
             have O2 := Lib.hid ho.bs
             have SZ2 := SS.out (fun _ => False) w2 (Keep.ofBelow B2.out _) (fun h => h) (fun h => h) (fun h => h) (fun h => h) (fun h => h) (fun h => h)
             clear ho hb)
          | (go_at_call_of 58 (Value.slice a4 r.reply.size c4); refine (text_w v2 _ _ r.reply w2 O2.out (HR.out.below B2.out) (by simp only [size_append, lo4_size, show ByteArray.empty.size = 0 from rfl]; omega) (by omega)).mono ?_; rintro e w3 ⟨v3, rfl, ho, hb⟩
             have B3 := Lib.hid (below_and B2.out hb)
             have O13 := Lib.hid (O12.out.below hb)
             have O3 := Lib.hid ho.bs
             have SZ3 := SS.out (fun _ => False) w3 (Keep.ofBelow B3.out _) (fun h => h) (fun h => h) (fun h => h) (fun h => h) (fun h => h) (fun h => h)
             clear ho hb)
          | (go_at_call 57; refine (uint_w v3 _ r.seq hs.1 hs.2 w3 O3.out (by simp only [size_append, lo4_size, show ByteArray.empty.size = 0 from rfl]; omega)).mono ?_; rintro e w4 ⟨v4, rfl, ho, hb⟩
             have B4 := Lib.hid (below_and B3.out hb)
             have O14 := Lib.hid (O13.out.below hb)
             have O4 := Lib.hid (show BS w4 v4 r.enc from ho.bs)
             have SZ4 := SS.out (fun _ => False) w4 (Keep.ofBelow B4.out _) (fun h => h) (fun h => h) (fun h => h) (fun h => h) (fun h => h) (fun h => h)
             clear ho hb)
          | (go_at_call 22; refine (put_any p room b1 b2 now was v1 v4 (kb t x) r.enc w4 (HMD.out.below B4.out) O14.out O4.out hl).mono ?_; rintro e w5 ⟨rfl, hm, hk⟩
             have M5 := Lib.hid hm
             have hk5 := (Keep.ofBelow B4.out (fun i => i = b1)).trans hk (fun i hi => .inl hi)
             have K5 := Lib.hid hk5
             have SZ5 := SS.out _ w5 hk5 NB.out.1 NB.out.2.1 NB.out.2.2.1 NB.out.2.2.2.1 NB.out.2.2.2.2.1 NB.out.2.2.2.2.2
             clear hm hk hk5)
        go_wp2_with fail
        refine hK.out _ _ ?_ (fun hHeld1 => ?_)
        · (try dsimp only)
          first | exact S0.out | exact SZ5 | exact SZ4 | exact SZ3 | exact SZ2 | exact SZ1
        clear hK K hHeld0
        try simp only [Act.put, List.setIfInBounds_toArray, List.set_cons_zero, List.set_cons_succ]
        refine wpAnyH_ready (rs := [5, 10]) (by kernel_rfl) (by simp) ?_
        refine readyN rfl (fun K hK => ?_) ?_
        · -- operation 5
          go_simp
          first
            | (go_at_call 56; refine (HKY.out _).mono ?_; rintro e w1 ⟨v1, rfl, ho, hb⟩
               have B1 := Lib.hid hb
               have O1 := Lib.hid ho.bs
               have SZ1 := SS.out (fun _ => False) w1 (Keep.ofBelow hb _) (fun h => h) (fun h => h) (fun h => h) (fun h => h) (fun h => h) (fun h => h)
               clear ho hb)
            | (go_at_call_of 58 (Value.slice a3 r.body.size c3); refine (text_w (.slice none 0 0) _ ByteArray.empty r.body w1 (BS.nil _) (HB.out.below B1.out) (by decide) (by omega)).mono ?_; rintro e w2 ⟨v2, rfl, ho, hb⟩
               have B2 := Lib.hid (below_and B1.out hb)
               have O12 := Lib.hid (O1.out.below hb)
               have O2 := Lib.hid ho.bs
               have SZ2 := SS.out (fun _ => False) w2 (Keep.ofBelow B2.out _) (fun h => h) (fun h => h) (fun h => h) (fun h => h) (fun h => h) (fun h => h)
               clear ho hb)
            | (go_at_call_of 58 (Value.slice a4 r.reply.size c4); refine (text_w v2 _ _ r.reply w2 O2.out (HR.out.below B2.out) (by simp only [size_append, lo4_size, show ByteArray.empty.size = 0 from rfl]; omega) (by omega)).mono ?_; rintro e w3 ⟨v3, rfl, ho, hb⟩
               have B3 := Lib.hid (below_and B2.out hb)
               have O13 := Lib.hid (O12.out.below hb)
               have O3 := Lib.hid ho.bs
               have SZ3 := SS.out (fun _ => False) w3 (Keep.ofBelow B3.out _) (fun h => h) (fun h => h) (fun h => h) (fun h => h) (fun h => h) (fun h => h)
               clear ho hb)
            | (go_at_call 57; refine (uint_w v3 _ r.seq hs.1 hs.2 w3 O3.out (by simp only [size_append, lo4_size, show ByteArray.empty.size = 0 from rfl]; omega)).mono ?_; rintro e w4 ⟨v4, rfl, ho, hb⟩
               have B4 := Lib.hid (below_and B3.out hb)
               have O14 := Lib.hid (O13.out.below hb)
               have O4 := Lib.hid (show BS w4 v4 r.enc from ho.bs)
               have SZ4 := SS.out (fun _ => False) w4 (Keep.ofBelow B4.out _) (fun h => h) (fun h => h) (fun h => h) (fun h => h) (fun h => h) (fun h => h)
               clear ho hb)
            | (go_at_call 22; refine (put_any p room b1 b2 now was v1 v4 (kb t x) r.enc w4 (HMD.out.below B4.out) O14.out O4.out hl).mono ?_; rintro e w5 ⟨rfl, hm, hk⟩
               have M5 := Lib.hid hm
               have hk5 := (Keep.ofBelow B4.out (fun i => i = b1)).trans hk (fun i hi => .inl hi)
               have K5 := Lib.hid hk5
               have SZ5 := SS.out _ w5 hk5 NB.out.1 NB.out.2.1 NB.out.2.2.1 NB.out.2.2.2.1 NB.out.2.2.2.2.1 NB.out.2.2.2.2.2
               clear hm hk hk5)
          go_wp2_with fail
          refine hK.out _ _ ?_ (fun hHeld2 => ?_)
          · (try dsimp only)
            first | exact S0.out | exact SZ5 | exact SZ4 | exact SZ3 | exact SZ2 | exact SZ1
          clear hK K hHeld1
          try simp only [Act.put, List.setIfInBounds_toArray, List.set_cons_zero, List.set_cons_succ]
          refine wpAnyH_ready (rs := [7, 10]) (by kernel_rfl) (by simp) ?_
          refine readyN rfl (fun K hK => ?_) ?_
          · -- operation 7
            go_simp
            first
              | (go_at_call 56; refine (HKY.out _).mono ?_; rintro e w1 ⟨v1, rfl, ho, hb⟩
                 have B1 := Lib.hid hb
                 have O1 := Lib.hid ho.bs
                 have SZ1 := SS.out (fun _ => False) w1 (Keep.ofBelow hb _) (fun h => h) (fun h => h) (fun h => h) (fun h => h) (fun h => h) (fun h => h)
                 clear ho hb)
              | (go_at_call_of 58 (Value.slice a3 r.body.size c3); refine (text_w (.slice none 0 0) _ ByteArray.empty r.body w1 (BS.nil _) (HB.out.below B1.out) (by decide) (by omega)).mono ?_; rintro e w2 ⟨v2, rfl, ho, hb⟩
                 have B2 := Lib.hid (below_and B1.out hb)
                 have O12 := Lib.hid (O1.out.below hb)
                 have O2 := Lib.hid ho.bs
                 have SZ2 := SS.out (fun _ => False) w2 (Keep.ofBelow B2.out _) (fun h => h) (fun h => h) (fun h => h) (fun h => h) (fun h => h) (fun h => h)
                 clear ho hb)
              | (go_at_call_of 58 (Value.slice a4 r.reply.size c4); refine (text_w v2 _ _ r.reply w2 O2.out (HR.out.below B2.out) (by simp only [size_append, lo4_size, show ByteArray.empty.size = 0 from rfl]; omega) (by omega)).mono ?_; rintro e w3 ⟨v3, rfl, ho, hb⟩
                 have B3 := Lib.hid (below_and B2.out hb)
                 have O13 := Lib.hid (O12.out.below hb)
                 have O3 := Lib.hid ho.bs
                 have SZ3 := SS.out (fun _ => False) w3 (Keep.ofBelow B3.out _) (fun h => h) (fun h => h) (fun h => h) (fun h => h) (fun h => h) (fun h => h)
                 clear ho hb)
              | (go_at_call 57; refine (uint_w v3 _ r.seq hs.1 hs.2 w3 O3.out (by simp only [size_append, lo4_size, show ByteArray.empty.size = 0 from rfl]; omega)).mono ?_; rintro e w4 ⟨v4, rfl, ho, hb⟩
                 have B4 := Lib.hid (below_and B3.out hb)
                 have O14 := Lib.hid (O13.out.below hb)
                 have O4 := Lib.hid (show BS w4 v4 r.enc from ho.bs)
                 have SZ4 := SS.out (fun _ => False) w4 (Keep.ofBelow B4.out _) (fun h => h) (fun h => h) (fun h => h) (fun h => h) (fun h => h) (fun h => h)
                 clear ho hb)
              | (go_at_call 22; refine (put_any p room b1 b2 now was v1 v4 (kb t x) r.enc w4 (HMD.out.below B4.out) O14.out O4.out hl).mono ?_; rintro e w5 ⟨rfl, hm, hk⟩
                 have M5 := Lib.hid hm
                 have hk5 := (Keep.ofBelow B4.out (fun i => i = b1)).trans hk (fun i hi => .inl hi)
                 have K5 := Lib.hid hk5
                 have SZ5 := SS.out _ w5 hk5 NB.out.1 NB.out.2.1 NB.out.2.2.1 NB.out.2.2.2.1 NB.out.2.2.2.2.1 NB.out.2.2.2.2.2
                 clear hm hk hk5)
            go_wp2_with fail
            refine hK.out _ _ ?_ (fun hHeld3 => ?_)
            · (try dsimp only)
              first | exact S0.out | exact SZ5 | exact SZ4 | exact SZ3 | exact SZ2 | exact SZ1
            clear hK K hHeld2
            try simp only [Act.put, List.setIfInBounds_toArray, List.set_cons_zero, List.set_cons_succ]
            refine wpAnyH_ready (rs := [9, 10]) (by kernel_rfl) (by simp) ?_
            refine readyN rfl (fun K hK => ?_) ?_
            · -- operation 9
              go_simp
              first
                | (go_at_call 56; refine (HKY.out _).mono ?_; rintro e w1 ⟨v1, rfl, ho, hb⟩
                   have B1 := Lib.hid hb
                   have O1 := Lib.hid ho.bs
                   have SZ1 := SS.out (fun _ => False) w1 (Keep.ofBelow hb _) (fun h => h) (fun h => h) (fun h => h) (fun h => h) (fun h => h) (fun h => h)
                   clear ho hb)
                | (go_at_call_of 58 (Value.slice a3 r.body.size c3); refine (text_w (.slice none 0 0) _ ByteArray.empty r.body w1 (BS.nil _) (HB.out.below B1.out) (by decide) (by omega)).mono ?_; rintro e w2 ⟨v2, rfl, ho, hb⟩
                   have B2 := Lib.hid (below_and B1.out hb)
                   have O12 := Lib.hid (O1.out.below hb)
                   have O2 := Lib.hid ho.bs
                   have SZ2 := SS.out (fun _ => False) w2 (Keep.ofBelow B2.out _) (fun h => h) (fun h => h) (fun h => h) (fun h => h) (fun h => h) (fun h => h)
                   clear ho hb)
                | (go_at_call_of 58 (Value.slice a4 r.reply.size c4); refine (text_w v2 _ _ r.reply w2 O2.out (HR.out.below B2.out) (by simp only [size_append, lo4_size, show ByteArray.empty.size = 0 from rfl]; omega) (by omega)).mono ?_; rintro e w3 ⟨v3, rfl, ho, hb⟩
                   have B3 := Lib.hid (below_and B2.out hb)
                   have O13 := Lib.hid (O12.out.below hb)
                   have O3 := Lib.hid ho.bs
                   have SZ3 := SS.out (fun _ => False) w3 (Keep.ofBelow B3.out _) (fun h => h) (fun h => h) (fun h => h) (fun h => h) (fun h => h) (fun h => h)
                   clear ho hb)
                | (go_at_call 57; refine (uint_w v3 _ r.seq hs.1 hs.2 w3 O3.out (by simp only [size_append, lo4_size, show ByteArray.empty.size = 0 from rfl]; omega)).mono ?_; rintro e w4 ⟨v4, rfl, ho, hb⟩
                   have B4 := Lib.hid (below_and B3.out hb)
                   have O14 := Lib.hid (O13.out.below hb)
                   have O4 := Lib.hid (show BS w4 v4 r.enc from ho.bs)
                   have SZ4 := SS.out (fun _ => False) w4 (Keep.ofBelow B4.out _) (fun h => h) (fun h => h) (fun h => h) (fun h => h) (fun h => h) (fun h => h)
                   clear ho hb)
                | (go_at_call 22; refine (put_any p room b1 b2 now was v1 v4 (kb t x) r.enc w4 (HMD.out.below B4.out) O14.out O4.out hl).mono ?_; rintro e w5 ⟨rfl, hm, hk⟩
                   have M5 := Lib.hid hm
                   have hk5 := (Keep.ofBelow B4.out (fun i => i = b1)).trans hk (fun i hi => .inl hi)
                   have K5 := Lib.hid hk5
                   have SZ5 := SS.out _ w5 hk5 NB.out.1 NB.out.2.1 NB.out.2.2.1 NB.out.2.2.2.1 NB.out.2.2.2.2.1 NB.out.2.2.2.2.2
                   clear hm hk hk5)
              go_wp2_with fail
              refine hK.out _ _ ?_ (fun hHeld4 => ?_)
              · (try dsimp only)
                first | exact S0.out | exact SZ5 | exact SZ4 | exact SZ3 | exact SZ2 | exact SZ1
              clear hK K hHeld3
              try simp only [Act.put, List.setIfInBounds_toArray, List.set_cons_zero, List.set_cons_succ]
              refine wpAnyH_ready (rs := [10]) (by kernel_rfl) (by simp) ?_
              refine readyN rfl (fun K hK => ?_) ?_
              · -- operation 10
                go_simp
                refine hK.out _ _ ?_ (fun hHeld5 => ?_)
                · (try dsimp only)
                  first | exact S0.out | exact SZ5 | exact SZ4 | exact SZ3 | exact SZ2 | exact SZ1
                clear hK K hHeld4
                try simp only [Act.put, List.setIfInBounds_toArray, List.set_cons_zero, List.set_cons_succ]
                refine takeN (v := ?_) 11 rfl (by kernel_rfl) (by kernel_rfl) (by kernel_rfl) (fun _ _ _ h => h) (by rfl) ?_ hHeld5 ?_
                rotate_left
                · intro w hSw; (try dsimp only at hSw); go_simp; with_reducible rfl
                try simp only [Act.put, List.setIfInBounds_toArray, List.set_cons_zero, List.set_cons_succ]
                refine takeN (v := ?_) 12 rfl (by kernel_rfl) (by kernel_rfl) (by kernel_rfl) (fun _ _ _ h => h) (by rfl) ?_ hHeld5 ?_
                rotate_left
                · intro w hSw; (try dsimp only at hSw); go_simp; with_reducible rfl
                try simp only [Act.put, List.setIfInBounds_toArray, List.set_cons_zero, List.set_cons_succ]
                refine wpAnyH_ready (rs := [13]) (by kernel_rfl) (by simp) ?_
                refine readyN rfl (fun K hK => ?_) ?_
                · -- operation 13
                  go_simp
                  go_wp2_with (
                      first
                        | (go_at_call 56; refine (HKY.out _).mono ?_; rintro e w1 ⟨v1, rfl, ho, hb⟩
                           have B1 := Lib.hid hb
                           have O1 := Lib.hid ho.bs
                           have SZ1 := SS.out (fun _ => False) w1 (Keep.ofBelow hb _) (fun h => h) (fun h => h) (fun h => h) (fun h => h) (fun h => h) (fun h => h)
                           clear ho hb)
                        | (go_at_call_of 58 (Value.slice a3 r.body.size c3); refine (text_w (.slice none 0 0) _ ByteArray.empty r.body w1 (BS.nil _) (HB.out.below B1.out) (by decide) (by omega)).mono ?_; rintro e w2 ⟨v2, rfl, ho, hb⟩
                           have B2 := Lib.hid (below_and B1.out hb)
                           have O12 := Lib.hid (O1.out.below hb)
                           have O2 := Lib.hid ho.bs
                           have SZ2 := SS.out (fun _ => False) w2 (Keep.ofBelow B2.out _) (fun h => h) (fun h => h) (fun h => h) (fun h => h) (fun h => h) (fun h => h)
                           clear ho hb)
                        | (go_at_call_of 58 (Value.slice a4 r.reply.size c4); refine (text_w v2 _ _ r.reply w2 O2.out (HR.out.below B2.out) (by simp only [size_append, lo4_size, show ByteArray.empty.size = 0 from rfl]; omega) (by omega)).mono ?_; rintro e w3 ⟨v3, rfl, ho, hb⟩
                           have B3 := Lib.hid (below_and B2.out hb)
                           have O13 := Lib.hid (O12.out.below hb)
                           have O3 := Lib.hid ho.bs
                           have SZ3 := SS.out (fun _ => False) w3 (Keep.ofBelow B3.out _) (fun h => h) (fun h => h) (fun h => h) (fun h => h) (fun h => h) (fun h => h)
                           clear ho hb)
                        | (go_at_call 57; refine (uint_w v3 _ r.seq hs.1 hs.2 w3 O3.out (by simp only [size_append, lo4_size, show ByteArray.empty.size = 0 from rfl]; omega)).mono ?_; rintro e w4 ⟨v4, rfl, ho, hb⟩
                           have B4 := Lib.hid (below_and B3.out hb)
                           have O14 := Lib.hid (O13.out.below hb)
                           have O4 := Lib.hid (show BS w4 v4 r.enc from ho.bs)
                           have SZ4 := SS.out (fun _ => False) w4 (Keep.ofBelow B4.out _) (fun h => h) (fun h => h) (fun h => h) (fun h => h) (fun h => h) (fun h => h)
                           clear ho hb)
                        | (go_at_call 22; refine (put_any p room b1 b2 now was v1 v4 (kb t x) r.enc w4 (HMD.out.below B4.out) O14.out O4.out hl).mono ?_; rintro e w5 ⟨rfl, hm, hk⟩
                           have M5 := Lib.hid hm
                           have hk5 := (Keep.ofBelow B4.out (fun i => i = b1)).trans hk (fun i hi => .inl hi)
                           have K5 := Lib.hid hk5
                           have SZ5 := SS.out _ w5 hk5 NB.out.1 NB.out.2.1 NB.out.2.2.1 NB.out.2.2.2.1 NB.out.2.2.2.2.1 NB.out.2.2.2.2.2
                           clear hm hk hk5))
                  refine hK.out _ _ ?_ (fun hHeld6 => ?_)
                  · (try dsimp only)
                    first | exact S0.out | exact SZ5 | exact SZ4 | exact SZ3 | exact SZ2 | exact SZ1
                  clear hK K hHeld5
                  try simp only [Act.put, List.setIfInBounds_toArray, List.set_cons_zero, List.set_cons_succ]
                  refine takeN (v := ?_) 14 rfl (by kernel_rfl) (by kernel_rfl) (by kernel_rfl) (fun _ _ _ h => h) (by rfl) ?_ hHeld6 ?_
                  rotate_left
                  · intro w hSw; (try dsimp only at hSw); go_simp; with_reducible rfl
                  try simp only [Act.put, List.setIfInBounds_toArray, List.set_cons_zero, List.set_cons_succ]
                  refine takeN (v := ?_) 15 rfl (by kernel_rfl) (by kernel_rfl) (by kernel_rfl) (fun _ _ _ h => h) (by rfl) ?_ hHeld6 ?_
                  rotate_left
                  · intro w hSw; (try dsimp only at hSw); go_simp; with_reducible rfl
                  try simp only [Act.put, List.setIfInBounds_toArray, List.set_cons_zero, List.set_cons_succ]
                  refine wpAnyH_done (by kernel_rfl) ?_ _
                  go_wp2
                  go_ret2
                  exact ⟨_, rfl, M5.out, (HKD.out.mono (fun _ h => h.elim)).trans K5.out (fun i hi => .inl hi)⟩
                exact AllReadyH.nil
              exact AllReadyH.nil
            refine readyN rfl (fun K hK => ?_) ?_
            · -- operation 10
              go_simp
              refine hK.out _ _ ?_ (fun hHeld4 => ?_)
              · (try dsimp only)
                first | exact S0.out | exact SZ5 | exact SZ4 | exact SZ3 | exact SZ2 | exact SZ1
              clear hK K hHeld3
              try simp only [Act.put, List.setIfInBounds_toArray, List.set_cons_zero, List.set_cons_succ]
              refine takeN (v := ?_) 11 rfl (by kernel_rfl) (by kernel_rfl) (by kernel_rfl) (fun _ _ _ h => h) (by rfl) ?_ hHeld4 ?_
              rotate_left
              · intro w hSw; (try dsimp only at hSw); go_simp; with_reducible rfl
              try simp only [Act.put, List.setIfInBounds_toArray, List.set_cons_zero, List.set_cons_succ]
              refine takeN (v := ?_) 12 rfl (by kernel_rfl) (by kernel_rfl) (by kernel_rfl) (fun _ _ _ h => h) (by rfl) ?_ hHeld4 ?_
              rotate_left
              · intro w hSw; (try dsimp only at hSw); go_simp; with_reducible rfl
              try simp only [Act.put, List.setIfInBounds_toArray, List.set_cons_zero, List.set_cons_succ]
              refine wpAnyH_ready (rs := [9]) (by kernel_rfl) (by simp) ?_
              refine readyN rfl (fun K hK => ?_) ?_
              · -- operation 9
                go_simp
                first
                  | (go_at_call 56; refine (HKY.out _).mono ?_; rintro e w1 ⟨v1, rfl, ho, hb⟩
                     have B1 := Lib.hid hb
                     have O1 := Lib.hid ho.bs
                     have SZ1 := SS.out (fun _ => False) w1 (Keep.ofBelow hb _) (fun h => h) (fun h => h) (fun h => h) (fun h => h) (fun h => h) (fun h => h)
                     clear ho hb)
                  | (go_at_call_of 58 (Value.slice a3 r.body.size c3); refine (text_w (.slice none 0 0) _ ByteArray.empty r.body w1 (BS.nil _) (HB.out.below B1.out) (by decide) (by omega)).mono ?_; rintro e w2 ⟨v2, rfl, ho, hb⟩
                     have B2 := Lib.hid (below_and B1.out hb)
                     have O12 := Lib.hid (O1.out.below hb)
                     have O2 := Lib.hid ho.bs
                     have SZ2 := SS.out (fun _ => False) w2 (Keep.ofBelow B2.out _) (fun h => h) (fun h => h) (fun h => h) (fun h => h) (fun h => h) (fun h => h)
                     clear ho hb)
                  | (go_at_call_of 58 (Value.slice a4 r.reply.size c4); refine (text_w v2 _ _ r.reply w2 O2.out (HR.out.below B2.out) (by simp only [size_append, lo4_size, show ByteArray.empty.size = 0 from rfl]; omega) (by omega)).mono ?_; rintro e w3 ⟨v3, rfl, ho, hb⟩
                     have B3 := Lib.hid (below_and B2.out hb)
                     have O13 := Lib.hid (O12.out.below hb)
                     have O3 := Lib.hid ho.bs
                     have SZ3 := SS.out (fun _ => False) w3 (Keep.ofBelow B3.out _) (fun h => h) (fun h => h) (fun h => h) (fun h => h) (fun h => h) (fun h => h)
                     clear ho hb)
                  | (go_at_call 57; refine (uint_w v3 _ r.seq hs.1 hs.2 w3 O3.out (by simp only [size_append, lo4_size, show ByteArray.empty.size = 0 from rfl]; omega)).mono ?_; rintro e w4 ⟨v4, rfl, ho, hb⟩
                     have B4 := Lib.hid (below_and B3.out hb)
                     have O14 := Lib.hid (O13.out.below hb)
                     have O4 := Lib.hid (show BS w4 v4 r.enc from ho.bs)
                     have SZ4 := SS.out (fun _ => False) w4 (Keep.ofBelow B4.out _) (fun h => h) (fun h => h) (fun h => h) (fun h => h) (fun h => h) (fun h => h)
                     clear ho hb)
                  | (go_at_call 22; refine (put_any p room b1 b2 now was v1 v4 (kb t x) r.enc w4 (HMD.out.below B4.out) O14.out O4.out hl).mono ?_; rintro e w5 ⟨rfl, hm, hk⟩
                     have M5 := Lib.hid hm
                     have hk5 := (Keep.ofBelow B4.out (fun i => i = b1)).trans hk (fun i hi => .inl hi)
                     have K5 := Lib.hid hk5
                     have SZ5 := SS.out _ w5 hk5 NB.out.1 NB.out.2.1 NB.out.2.2.1 NB.out.2.2.2.1 NB.out.2.2.2.2.1 NB.out.2.2.2.2.2
                     clear hm hk hk5)
                go_wp2_with fail
                refine hK.out _ _ ?_ (fun hHeld5 => ?_)
                · (try dsimp only)
                  first | exact S0.out | exact SZ5 | exact SZ4 | exact SZ3 | exact SZ2 | exact SZ1
                clear hK K hHeld4
                try simp only [Act.put, List.setIfInBounds_toArray, List.set_cons_zero, List.set_cons_succ]
                refine wpAnyH_ready (rs := [13]) (by kernel_rfl) (by simp) ?_
                refine readyN rfl (fun K hK => ?_) ?_
                · -- operation 13
                  go_simp
                  go_wp2_with (
                      first
                        | (go_at_call 56; refine (HKY.out _).mono ?_; rintro e w1 ⟨v1, rfl, ho, hb⟩
                           have B1 := Lib.hid hb
                           have O1 := Lib.hid ho.bs
                           have SZ1 := SS.out (fun _ => False) w1 (Keep.ofBelow hb _) (fun h => h) (fun h => h) (fun h => h) (fun h => h) (fun h => h) (fun h => h)
                           clear ho hb)
                        | (go_at_call_of 58 (Value.slice a3 r.body.size c3); refine (text_w (.slice none 0 0) _ ByteArray.empty r.body w1 (BS.nil _) (HB.out.below B1.out) (by decide) (by omega)).mono ?_; rintro e w2 ⟨v2, rfl, ho, hb⟩
                           have B2 := Lib.hid (below_and B1.out hb)
                           have O12 := Lib.hid (O1.out.below hb)
                           have O2 := Lib.hid ho.bs
                           have SZ2 := SS.out (fun _ => False) w2 (Keep.ofBelow B2.out _) (fun h => h) (fun h => h) (fun h => h) (fun h => h) (fun h => h) (fun h => h)
                           clear ho hb)
                        | (go_at_call_of 58 (Value.slice a4 r.reply.size c4); refine (text_w v2 _ _ r.reply w2 O2.out (HR.out.below B2.out) (by simp only [size_append, lo4_size, show ByteArray.empty.size = 0 from rfl]; omega) (by omega)).mono ?_; rintro e w3 ⟨v3, rfl, ho, hb⟩
                           have B3 := Lib.hid (below_and B2.out hb)
                           have O13 := Lib.hid (O12.out.below hb)
                           have O3 := Lib.hid ho.bs
                           have SZ3 := SS.out (fun _ => False) w3 (Keep.ofBelow B3.out _) (fun h => h) (fun h => h) (fun h => h) (fun h => h) (fun h => h) (fun h => h)
                           clear ho hb)
                        | (go_at_call 57; refine (uint_w v3 _ r.seq hs.1 hs.2 w3 O3.out (by simp only [size_append, lo4_size, show ByteArray.empty.size = 0 from rfl]; omega)).mono ?_; rintro e w4 ⟨v4, rfl, ho, hb⟩
                           have B4 := Lib.hid (below_and B3.out hb)
                           have O14 := Lib.hid (O13.out.below hb)
                           have O4 := Lib.hid (show BS w4 v4 r.enc from ho.bs)
                           have SZ4 := SS.out (fun _ => False) w4 (Keep.ofBelow B4.out _) (fun h => h) (fun h => h) (fun h => h) (fun h => h) (fun h => h) (fun h => h)
                           clear ho hb)
                        | (go_at_call 22; refine (put_any p room b1 b2 now was v1 v4 (kb t x) r.enc w4 (HMD.out.below B4.out) O14.out O4.out hl).mono ?_; rintro e w5 ⟨rfl, hm, hk⟩
                           have M5 := Lib.hid hm
                           have hk5 := (Keep.ofBelow B4.out (fun i => i = b1)).trans hk (fun i hi => .inl hi)
                           have K5 := Lib.hid hk5
                           have SZ5 := SS.out _ w5 hk5 NB.out.1 NB.out.2.1 NB.out.2.2.1 NB.out.2.2.2.1 NB.out.2.2.2.2.1 NB.out.2.2.2.2.2
                           clear hm hk hk5))
                  refine hK.out _ _ ?_ (fun hHeld6 => ?_)
                  · (try dsimp only)
                    first | exact S0.out | exact SZ5 | exact SZ4 | exact SZ3 | exact SZ2 | exact SZ1
                  clear hK K hHeld5
                  try simp only [Act.put, List.setIfInBounds_toArray, List.set_cons_zero, List.set_cons_succ]
                  refine takeN (v := ?_) 14 rfl (by kernel_rfl) (by kernel_rfl) (by kernel_rfl) (fun _ _ _ h => h) (by rfl) ?_ hHeld6 ?_
                  rotate_left
                  · intro w hSw; (try dsimp only at hSw); go_simp; with_reducible rfl
                  try simp only [Act.put, List.setIfInBounds_toArray, List.set_cons_zero, List.set_cons_succ]
                  refine takeN (v := ?_) 15 rfl (by kernel_rfl) (by kernel_rfl) (by kernel_rfl) (fun _ _ _ h => h) (by rfl) ?_ hHeld6 ?_
                  rotate_left
                  · intro w hSw; (try dsimp only at hSw); go_simp; with_reducible rfl
                  try simp only [Act.put, List.setIfInBounds_toArray, List.set_cons_zero, List.set_cons_succ]
                  refine wpAnyH_done (by kernel_rfl) ?_ _
                  go_wp2
                  go_ret2
                  exact ⟨_, rfl, M5.out, (HKD.out.mono (fun _ h => h.elim)).trans K5.out (fun i hi => .inl hi)⟩
                exact AllReadyH.nil
              exact AllReadyH.nil
            exact AllReadyH.nil
          refine readyN rfl (fun K hK => ?_) ?_
          · -- operation 10
            go_simp
            refine hK.out _ _ ?_ (fun hHeld3 => ?_)
            · (try dsimp only)
              first | exact S0.out | exact SZ5 | exact SZ4 | exact SZ3 | exact SZ2 | exact SZ1
            clear hK K hHeld2
            try simp only [Act.put, List.setIfInBounds_toArray, List.set_cons_zero, List.set_cons_succ]
            refine takeN (v := ?_) 11 rfl (by kernel_rfl) (by kernel_rfl) (by kernel_rfl) (fun _ _ _ h => h) (by rfl) ?_ hHeld3 ?_
            rotate_left
            · intro w hSw; (try dsimp only at hSw); go_simp; with_reducible rfl
            try simp only [Act.put, List.setIfInBounds_toArray, List.set_cons_zero, List.set_cons_succ]
            refine takeN (v := ?_) 12 rfl (by kernel_rfl) (by kernel_rfl) (by kernel_rfl) (fun _ _ _ h => h) (by rfl) ?_ hHeld3 ?_
            rotate_left
            · intro w hSw; (try dsimp only at hSw); go_simp; with_reducible rfl
            try simp only [Act.put, List.setIfInBounds_toArray, List.set_cons_zero, List.set_cons_succ]
            refine wpAnyH_ready (rs := [7]) (by kernel_rfl) (by simp) ?_
            refine readyN rfl (fun K hK => ?_) ?_
            · -- operation 7
              go_simp
              first
                | (go_at_call 56; refine (HKY.out _).mono ?_; rintro e w1 ⟨v1, rfl, ho, hb⟩
                   have B1 := Lib.hid hb
                   have O1 := Lib.hid ho.bs
                   have SZ1 := SS.out (fun _ => False) w1 (Keep.ofBelow hb _) (fun h => h) (fun h => h) (fun h => h) (fun h => h) (fun h => h) (fun h => h)
                   clear ho hb)
                | (go_at_call_of 58 (Value.slice a3 r.body.size c3); refine (text_w (.slice none 0 0) _ ByteArray.empty r.body w1 (BS.nil _) (HB.out.below B1.out) (by decide) (by omega)).mono ?_; rintro e w2 ⟨v2, rfl, ho, hb⟩
                   have B2 := Lib.hid (below_and B1.out hb)
                   have O12 := Lib.hid (O1.out.below hb)
                   have O2 := Lib.hid ho.bs
                   have SZ2 := SS.out (fun _ => False) w2 (Keep.ofBelow B2.out _) (fun h => h) (fun h => h) (fun h => h) (fun h => h) (fun h => h) (fun h => h)
                   clear ho hb)
                | (go_at_call_of 58 (Value.slice a4 r.reply.size c4); refine (text_w v2 _ _ r.reply w2 O2.out (HR.out.below B2.out) (by simp only [size_append, lo4_size, show ByteArray.empty.size = 0 from rfl]; omega) (by omega)).mono ?_; rintro e w3 ⟨v3, rfl, ho, hb⟩
                   have B3 := Lib.hid (below_and B2.out hb)
                   have O13 := Lib.hid (O12.out.below hb)
                   have O3 := Lib.hid ho.bs
                   have SZ3 := SS.out (fun _ => False) w3 (Keep.ofBelow B3.out _) (fun h => h) (fun h => h) (fun h => h) (fun h => h) (fun h => h) (fun h => h)
                   clear ho hb)
                | (go_at_call 57; refine (uint_w v3 _ r.seq hs.1 hs.2 w3 O3.out (by simp only [size_append, lo4_size, show ByteArray.empty.size = 0 from rfl]; omega)).mono ?_; rintro e w4 ⟨v4, rfl, ho, hb⟩
                   have B4 := Lib.hid (below_and B3.out hb)
                   have O14 := Lib.hid (O13.out.below hb)
                   have O4 := Lib.hid (show BS w4 v4 r.enc from ho.bs)
                   have SZ4 := SS.out (fun _ => False) w4 (Keep.ofBelow B4.out _) (fun h => h) (fun h => h) (fun h => h) (fun h => h) (fun h => h) (fun h => h)
                   clear ho hb)
                | (go_at_call 22; refine (put_any p room b1 b2 now was v1 v4 (kb t x) r.enc w4 (HMD.out.below B4.out) O14.out O4.out hl).mono ?_; rintro e w5 ⟨rfl, hm, hk⟩
                   have M5 := Lib.hid hm
                   have hk5 := (Keep.ofBelow B4.out (fun i => i = b1)).trans hk (fun i hi => .inl hi)
                   have K5 := Lib.hid hk5
                   have SZ5 := SS.out _ w5 hk5 NB.out.1 NB.out.2.1 NB.out.2.2.1 NB.out.2.2.2.1 NB.out.2.2.2.2.1 NB.out.2.2.2.2.2
                   clear hm hk hk5)
              go_wp2_with fail
              refine hK.out _ _ ?_ (fun hHeld4 => ?_)
              · (try dsimp only)
                first | exact S0.out | exact SZ5 | exact SZ4 | exact SZ3 | exact SZ2 | exact SZ1
              clear hK K hHeld3
              try simp only [Act.put, List.setIfInBounds_toArray, List.set_cons_zero, List.set_cons_succ]
              refine wpAnyH_ready (rs := [9]) (by kernel_rfl) (by simp) ?_
              refine readyN rfl (fun K hK => ?_) ?_
              · -- operation 9
                go_simp
                first
                  | (go_at_call 56; refine (HKY.out _).mono ?_; rintro e w1 ⟨v1, rfl, ho, hb⟩
                     have B1 := Lib.hid hb
                     have O1 := Lib.hid ho.bs
                     have SZ1 := SS.out (fun _ => False) w1 (Keep.ofBelow hb _) (fun h => h) (fun h => h) (fun h => h) (fun h => h) (fun h => h) (fun h => h)
                     clear ho hb)
                  | (go_at_call_of 58 (Value.slice a3 r.body.size c3); refine (text_w (.slice none 0 0) _ ByteArray.empty r.body w1 (BS.nil _) (HB.out.below B1.out) (by decide) (by omega)).mono ?_; rintro e w2 ⟨v2, rfl, ho, hb⟩
                     have B2 := Lib.hid (below_and B1.out hb)
                     have O12 := Lib.hid (O1.out.below hb)
                     have O2 := Lib.hid ho.bs
                     have SZ2 := SS.out (fun _ => False) w2 (Keep.ofBelow B2.out _) (fun h => h) (fun h => h) (fun h => h) (fun h => h) (fun h => h) (fun h => h)
                     clear ho hb)
                  | (go_at_call_of 58 (Value.slice a4 r.reply.size c4); refine (text_w v2 _ _ r.reply w2 O2.out (HR.out.below B2.out) (by simp only [size_append, lo4_size, show ByteArray.empty.size = 0 from rfl]; omega) (by omega)).mono ?_; rintro e w3 ⟨v3, rfl, ho, hb⟩
                     have B3 := Lib.hid (below_and B2.out hb)
                     have O13 := Lib.hid (O12.out.below hb)
                     have O3 := Lib.hid ho.bs
                     have SZ3 := SS.out (fun _ => False) w3 (Keep.ofBelow B3.out _) (fun h => h) (fun h => h) (fun h => h) (fun h => h) (fun h => h) (fun h => h)
                     clear ho hb)
                  | (go_at_call 57; refine (uint_w v3 _ r.seq hs.1 hs.2 w3 O3.out (by simp only [size_append, lo4_size, show ByteArray.empty.size = 0 from rfl]; omega)).mono ?_; rintro e w4 ⟨v4, rfl, ho, hb⟩
                     have B4 := Lib.hid (below_and B3.out hb)
                     have O14 := Lib.hid (O13.out.below hb)
                     have O4 := Lib.hid (show BS w4 v4 r.enc from ho.bs)
                     have SZ4 := SS.out (fun _ => False) w4 (Keep.ofBelow B4.out _) (fun h => h) (fun h => h) (fun h => h) (fun h => h) (fun h => h) (fun h => h)
                     clear ho hb)
                  | (go_at_call 22; refine (put_any p room b1 b2 now was v1 v4 (kb t x) r.enc w4 (HMD.out.below B4.out) O14.out O4.out hl).mono ?_; rintro e w5 ⟨rfl, hm, hk⟩
                     have M5 := Lib.hid hm
                     have hk5 := (Keep.ofBelow B4.out (fun i => i = b1)).trans hk (fun i hi => .inl hi)
                     have K5 := Lib.hid hk5
                     have SZ5 := SS.out _ w5 hk5 NB.out.1 NB.out.2.1 NB.out.2.2.1 NB.out.2.2.2.1 NB.out.2.2.2.2.1 NB.out.2.2.2.2.2
                     clear hm hk hk5)
                go_wp2_with fail
                refine hK.out _ _ ?_ (fun hHeld5 => ?_)
                · (try dsimp only)
                  first | exact S0.out | exact SZ5 | exact SZ4 | exact SZ3 | exact SZ2 | exact SZ1
                clear hK K hHeld4
                try simp only [Act.put, List.setIfInBounds_toArray, List.set_cons_zero, List.set_cons_succ]
                refine wpAnyH_ready (rs := [13]) (by kernel_rfl) (by simp) ?_
                refine readyN rfl (fun K hK => ?_) ?_
                · -- operation 13
                  go_simp
                  go_wp2_with (
                      first
                        | (go_at_call 56; refine (HKY.out _).mono ?_; rintro e w1 ⟨v1, rfl, ho, hb⟩
                           have B1 := Lib.hid hb
                           have O1 := Lib.hid ho.bs
                           have SZ1 := SS.out (fun _ => False) w1 (Keep.ofBelow hb _) (fun h => h) (fun h => h) (fun h => h) (fun h => h) (fun h => h) (fun h => h)
                           clear ho hb)
                        | (go_at_call_of 58 (Value.slice a3 r.body.size c3); refine (text_w (.slice none 0 0) _ ByteArray.empty r.body w1 (BS.nil _) (HB.out.below B1.out) (by decide) (by omega)).mono ?_; rintro e w2 ⟨v2, rfl, ho, hb⟩
                           have B2 := Lib.hid (below_and B1.out hb)
                           have O12 := Lib.hid (O1.out.below hb)
                           have O2 := Lib.hid ho.bs
                           have SZ2 := SS.out (fun _ => False) w2 (Keep.ofBelow B2.out _) (fun h => h) (fun h => h) (fun h => h) (fun h => h) (fun h => h) (fun h => h)
                           clear ho hb)
                        | (go_at_call_of 58 (Value.slice a4 r.reply.size c4); refine (text_w v2 _ _ r.reply w2 O2.out (HR.out.below B2.out) (by simp only [size_append, lo4_size, show ByteArray.empty.size = 0 from rfl]; omega) (by omega)).mono ?_; rintro e w3 ⟨v3, rfl, ho, hb⟩
                           have B3 := Lib.hid (below_and B2.out hb)
                           have O13 := Lib.hid (O12.out.below hb)
                           have O3 := Lib.hid ho.bs
                           have SZ3 := SS.out (fun _ => False) w3 (Keep.ofBelow B3.out _) (fun h => h) (fun h => h) (fun h => h) (fun h => h) (fun h => h) (fun h => h)
                           clear ho hb)
                        | (go_at_call 57; refine (uint_w v3 _ r.seq hs.1 hs.2 w3 O3.out (by simp only [size_append, lo4_size, show ByteArray.empty.size = 0 from rfl]; omega)).mono ?_; rintro e w4 ⟨v4, rfl, ho, hb⟩
                           have B4 := Lib.hid (below_and B3.out hb)
                           have O14 := Lib.hid (O13.out.below hb)
                           have O4 := Lib.hid (show BS w4 v4 r.enc from ho.bs)
                           have SZ4 := SS.out (fun _ => False) w4 (Keep.ofBelow B4.out _) (fun h => h) (fun h => h) (fun h => h) (fun h => h) (fun h => h) (fun h => h)
                           clear ho hb)
                        | (go_at_call 22; refine (put_any p room b1 b2 now was v1 v4 (kb t x) r.enc w4 (HMD.out.below B4.out) O14.out O4.out hl).mono ?_; rintro e w5 ⟨rfl, hm, hk⟩
                           have M5 := Lib.hid hm
                           have hk5 := (Keep.ofBelow B4.out (fun i => i = b1)).trans hk (fun i hi => .inl hi)
                           have K5 := Lib.hid hk5
                           have SZ5 := SS.out _ w5 hk5 NB.out.1 NB.out.2.1 NB.out.2.2.1 NB.out.2.2.2.1 NB.out.2.2.2.2.1 NB.out.2.2.2.2.2
                           clear hm hk hk5))
                  refine hK.out _ _ ?_ (fun hHeld6 => ?_)
                  · (try dsimp only)
                    first | exact S0.out | exact SZ5 | exact SZ4 | exact SZ3 | exact SZ2 | exact SZ1
                  clear hK K hHeld5
                  try simp only [Act.put, List.setIfInBounds_toArray, List.set_cons_zero, List.set_cons_succ]
                  refine takeN (v := ?_) 14 rfl (by kernel_rfl) (by kernel_rfl) (by kernel_rfl) (fun _ _ _ h => h) (by rfl) ?_ hHeld6 ?_
                  rotate_left
                  · intro w hSw; (try dsimp only at hSw); go_simp; with_reducible rfl
                  try simp only [Act.put, List.setIfInBounds_toArray, List.set_cons_zero, List.set_cons_succ]
                  refine takeN (v := ?_) 15 rfl (by kernel_rfl) (by kernel_rfl) (by kernel_rfl) (fun _ _ _ h => h) (by rfl) ?_ hHeld6 ?_
                  rotate_left
                  · intro w hSw; (try dsimp only at hSw); go_simp; with_reducible rfl
                  try simp only [Act.put, List.setIfInBounds_toArray, List.set_cons_zero, List.set_cons_succ]
                  refine wpAnyH_done (by kernel_rfl) ?_ _
                  go_wp2
                  go_ret2
                  exact ⟨_, rfl, M5.out, (HKD.out.mono (fun _ h => h.elim)).trans K5.out (fun i hi => .inl hi)⟩
                exact AllReadyH.nil
              exact AllReadyH.nil
            exact AllReadyH.nil
          exact AllReadyH.nil
        refine readyN rfl (fun K hK => ?_) ?_
        · -- operation 10
          go_simp
          refine hK.out _ _ ?_ (fun hHeld2 => ?_)
          · (try dsimp only)
            first | exact S0.out | exact SZ5 | exact SZ4 | exact SZ3 | exact SZ2 | exact SZ1
          clear hK K hHeld1
          try simp only [Act.put, List.setIfInBounds_toArray, List.set_cons_zero, List.set_cons_succ]
          refine takeN (v := ?_) 11 rfl (by kernel_rfl) (by kernel_rfl) (by kernel_rfl) (fun _ _ _ h => h) (by rfl) ?_ hHeld2 ?_
          rotate_left
          · intro w hSw; (try dsimp only at hSw); go_simp; with_reducible rfl
          try simp only [Act.put, List.setIfInBounds_toArray, List.set_cons_zero, List.set_cons_succ]
          refine takeN (v := ?_) 12 rfl (by kernel_rfl) (by kernel_rfl) (by kernel_rfl) (fun _ _ _ h => h) (by rfl) ?_ hHeld2 ?_
          rotate_left
          · intro w hSw; (try dsimp only at hSw); go_simp; with_reducible rfl
          try simp only [Act.put, List.setIfInBounds_toArray, List.set_cons_zero, List.set_cons_succ]
          refine wpAnyH_ready (rs := [5]) (by kernel_rfl) (by simp) ?_
          refine readyN rfl (fun K hK => ?_) ?_
          · -- operation 5
            go_simp
            first
              | (go_at_call 56; refine (HKY.out _).mono ?_; rintro e w1 ⟨v1, rfl, ho, hb⟩
                 have B1 := Lib.hid hb
                 have O1 := Lib.hid ho.bs
                 have SZ1 := SS.out (fun _ => False) w1 (Keep.ofBelow hb _) (fun h => h) (fun h => h) (fun h => h) (fun h => h) (fun h => h) (fun h => h)
                 clear ho hb)
              | (go_at_call_of 58 (Value.slice a3 r.body.size c3); refine (text_w (.slice none 0 0) _ ByteArray.empty r.body w1 (BS.nil _) (HB.out.below B1.out) (by decide) (by omega)).mono ?_; rintro e w2 ⟨v2, rfl, ho, hb⟩
                 have B2 := Lib.hid (below_and B1.out hb)
                 have O12 := Lib.hid (O1.out.below hb)
                 have O2 := Lib.hid ho.bs
                 have SZ2 := SS.out (fun _ => False) w2 (Keep.ofBelow B2.out _) (fun h => h) (fun h => h) (fun h => h) (fun h => h) (fun h => h) (fun h => h)
                 clear ho hb)
              | (go_at_call_of 58 (Value.slice a4 r.reply.size c4); refine (text_w v2 _ _ r.reply w2 O2.out (HR.out.below B2.out) (by simp only [size_append, lo4_size, show ByteArray.empty.size = 0 from rfl]; omega) (by omega)).mono ?_; rintro e w3 ⟨v3, rfl, ho, hb⟩
                 have B3 := Lib.hid (below_and B2.out hb)
                 have O13 := Lib.hid (O12.out.below hb)
                 have O3 := Lib.hid ho.bs
                 have SZ3 := SS.out (fun _ => False) w3 (Keep.ofBelow B3.out _) (fun h => h) (fun h => h) (fun h => h) (fun h => h) (fun h => h) (fun h => h)
                 clear ho hb)
              | (go_at_call 57; refine (uint_w v3 _ r.seq hs.1 hs.2 w3 O3.out (by simp only [size_append, lo4_size, show ByteArray.empty.size = 0 from rfl]; omega)).mono ?_; rintro e w4 ⟨v4, rfl, ho, hb⟩
                 have B4 := Lib.hid (below_and B3.out hb)
                 have O14 := Lib.hid (O13.out.below hb)
                 have O4 := Lib.hid (show BS w4 v4 r.enc from ho.bs)
                 have SZ4 := SS.out (fun _ => False) w4 (Keep.ofBelow B4.out _) (fun h => h) (fun h => h) (fun h => h) (fun h => h) (fun h => h) (fun h => h)
                 clear ho hb)
              | (go_at_call 22; refine (put_any p room b1 b2 now was v1 v4 (kb t x) r.enc w4 (HMD.out.below B4.out) O14.out O4.out hl).mono ?_; rintro e w5 ⟨rfl, hm, hk⟩
                 have M5 := Lib.hid hm
                 have hk5 := (Keep.ofBelow B4.out (fun i => i = b1)).trans hk (fun i hi => .inl hi)
                 have K5 := Lib.hid hk5
                 have SZ5 := SS.out _ w5 hk5 NB.out.1 NB.out.2.1 NB.out.2.2.1 NB.out.2.2.2.1 NB.out.2.2.2.2.1 NB.out.2.2.2.2.2
                 clear hm hk hk5)
            go_wp2_with fail
            refine hK.out _ _ ?_ (fun hHeld3 => ?_)
            · (try dsimp only)
              first | exact S0.out | exact SZ5 | exact SZ4 | exact SZ3 | exact SZ2 | exact SZ1
            clear hK K hHeld2
            try simp only [Act.put, List.setIfInBounds_toArray, List.set_cons_zero, List.set_cons_succ]
            refine wpAnyH_ready (rs := [7]) (by kernel_rfl) (by simp) ?_
            refine readyN rfl (fun K hK => ?_) ?_
            · -- operation 7
              go_simp
              first
                | (go_at_call 56; refine (HKY.out _).mono ?_; rintro e w1 ⟨v1, rfl, ho, hb⟩
                   have B1 := Lib.hid hb
                   have O1 := Lib.hid ho.bs
                   have SZ1 := SS.out (fun _ => False) w1 (Keep.ofBelow hb _) (fun h => h) (fun h => h) (fun h => h) (fun h => h) (fun h => h) (fun h => h)
                   clear ho hb)
                | (go_at_call_of 58 (Value.slice a3 r.body.size c3); refine (text_w (.slice none 0 0) _ ByteArray.empty r.body w1 (BS.nil _) (HB.out.below B1.out) (by decide) (by omega)).mono ?_; rintro e w2 ⟨v2, rfl, ho, hb⟩
                   have B2 := Lib.hid (below_and B1.out hb)
                   have O12 := Lib.hid (O1.out.below hb)
                   have O2 := Lib.hid ho.bs
                   have SZ2 := SS.out (fun _ => False) w2 (Keep.ofBelow B2.out _) (fun h => h) (fun h => h) (fun h => h) (fun h => h) (fun h => h) (fun h => h)
                   clear ho hb)
                | (go_at_call_of 58 (Value.slice a4 r.reply.size c4); refine (text_w v2 _ _ r.reply w2 O2.out (HR.out.below B2.out) (by simp only [size_append, lo4_size, show ByteArray.empty.size = 0 from rfl]; omega) (by omega)).mono ?_; rintro e w3 ⟨v3, rfl, ho, hb⟩
                   have B3 := Lib.hid (below_and B2.out hb)
                   have O13 := Lib.hid (O12.out.below hb)
                   have O3 := Lib.hid ho.bs
                   have SZ3 := SS.out (fun _ => False) w3 (Keep.ofBelow B3.out _) (fun h => h) (fun h => h) (fun h => h) (fun h => h) (fun h => h) (fun h => h)
                   clear ho hb)
                | (go_at_call 57; refine (uint_w v3 _ r.seq hs.1 hs.2 w3 O3.out (by simp only [size_append, lo4_size, show ByteArray.empty.size = 0 from rfl]; omega)).mono ?_; rintro e w4 ⟨v4, rfl, ho, hb⟩
                   have B4 := Lib.hid (below_and B3.out hb)
                   have O14 := Lib.hid (O13.out.below hb)
                   have O4 := Lib.hid (show BS w4 v4 r.enc from ho.bs)
                   have SZ4 := SS.out (fun _ => False) w4 (Keep.ofBelow B4.out _) (fun h => h) (fun h => h) (fun h => h) (fun h => h) (fun h => h) (fun h => h)
                   clear ho hb)
                | (go_at_call 22; refine (put_any p room b1 b2 now was v1 v4 (kb t x) r.enc w4 (HMD.out.below B4.out) O14.out O4.out hl).mono ?_; rintro e w5 ⟨rfl, hm, hk⟩
                   have M5 := Lib.hid hm
                   have hk5 := (Keep.ofBelow B4.out (fun i => i = b1)).trans hk (fun i hi => .inl hi)
                   have K5 := Lib.hid hk5
                   have SZ5 := SS.out _ w5 hk5 NB.out.1 NB.out.2.1 NB.out.2.2.1 NB.out.2.2.2.1 NB.out.2.2.2.2.1 NB.out.2.2.2.2.2
                   clear hm hk hk5)
              go_wp2_with fail
              refine hK.out _ _ ?_ (fun hHeld4 => ?_)
              · (try dsimp only)
                first | exact S0.out | exact SZ5 | exact SZ4 | exact SZ3 | exact SZ2 | exact SZ1
              clear hK K hHeld3
              try simp only [Act.put, List.setIfInBounds_toArray, List.set_cons_zero, List.set_cons_succ]
              refine wpAnyH_ready (rs := [9]) (by kernel_rfl) (by simp) ?_
              refine readyN rfl (fun K hK => ?_) ?_
              · -- operation 9
                go_simp
                first
                  | (go_at_call 56; refine (HKY.out _).mono ?_; rintro e w1 ⟨v1, rfl, ho, hb⟩
                     have B1 := Lib.hid hb
                     have O1 := Lib.hid ho.bs
                     have SZ1 := SS.out (fun _ => False) w1 (Keep.ofBelow hb _) (fun h => h) (fun h => h) (fun h => h) (fun h => h) (fun h => h) (fun h => h)
                     clear ho hb)
                  | (go_at_call_of 58 (Value.slice a3 r.body.size c3); refine (text_w (.slice none 0 0) _ ByteArray.empty r.body w1 (BS.nil _) (HB.out.below B1.out) (by decide) (by omega)).mono ?_; rintro e w2 ⟨v2, rfl, ho, hb⟩
                     have B2 := Lib.hid (below_and B1.out hb)
                     have O12 := Lib.hid (O1.out.below hb)
                     have O2 := Lib.hid ho.bs
                     have SZ2 := SS.out (fun _ => False) w2 (Keep.ofBelow B2.out _) (fun h => h) (fun h => h) (fun h => h) (fun h => h) (fun h => h) (fun h => h)
                     clear ho hb)
                  | (go_at_call_of 58 (Value.slice a4 r.reply.size c4); refine (text_w v2 _ _ r.reply w2 O2.out (HR.out.below B2.out) (by simp only [size_append, lo4_size, show ByteArray.empty.size = 0 from rfl]; omega) (by omega)).mono ?_; rintro e w3 ⟨v3, rfl, ho, hb⟩
                     have B3 := Lib.hid (below_and B2.out hb)
                     have O13 := Lib.hid (O12.out.below hb)
                     have O3 := Lib.hid ho.bs
                     have SZ3 := SS.out (fun _ => False) w3 (Keep.ofBelow B3.out _) (fun h => h) (fun h => h) (fun h => h) (fun h => h) (fun h => h) (fun h => h)
                     clear ho hb)
                  | (go_at_call 57; refine (uint_w v3 _ r.seq hs.1 hs.2 w3 O3.out (by simp only [size_append, lo4_size, show ByteArray.empty.size = 0 from rfl]; omega)).mono ?_; rintro e w4 ⟨v4, rfl, ho, hb⟩
                     have B4 := Lib.hid (below_and B3.out hb)
                     have O14 := Lib.hid (O13.out.below hb)
                     have O4 := Lib.hid (show BS w4 v4 r.enc from ho.bs)
                     have SZ4 := SS.out (fun _ => False) w4 (Keep.ofBelow B4.out _) (fun h => h) (fun h => h) (fun h => h) (fun h => h) (fun h => h) (fun h => h)
                     clear ho hb)
                  | (go_at_call 22; refine (put_any p room b1 b2 now was v1 v4 (kb t x) r.enc w4 (HMD.out.below B4.out) O14.out O4.out hl).mono ?_; rintro e w5 ⟨rfl, hm, hk⟩
                     have M5 := Lib.hid hm
                     have hk5 := (Keep.ofBelow B4.out (fun i => i = b1)).trans hk (fun i hi => .inl hi)
                     have K5 := Lib.hid hk5
                     have SZ5 := SS.out _ w5 hk5 NB.out.1 NB.out.2.1 NB.out.2.2.1 NB.out.2.2.2.1 NB.out.2.2.2.2.1 NB.out.2.2.2.2.2
                     clear hm hk hk5)
                go_wp2_with fail
                refine hK.out _ _ ?_ (fun hHeld5 => ?_)
                · (try dsimp only)
                  first | exact S0.out | exact SZ5 | exact SZ4 | exact SZ3 | exact SZ2 | exact SZ1
                clear hK K hHeld4
                try simp only [Act.put, List.setIfInBounds_toArray, List.set_cons_zero, List.set_cons_succ]
                refine wpAnyH_ready (rs := [13]) (by kernel_rfl) (by simp) ?_
                refine readyN rfl (fun K hK => ?_) ?_
                · -- operation 13
                  go_simp
                  go_wp2_with (
                      first
                        | (go_at_call 56; refine (HKY.out _).mono ?_; rintro e w1 ⟨v1, rfl, ho, hb⟩
                           have B1 := Lib.hid hb
                           have O1 := Lib.hid ho.bs
                           have SZ1 := SS.out (fun _ => False) w1 (Keep.ofBelow hb _) (fun h => h) (fun h => h) (fun h => h) (fun h => h) (fun h => h) (fun h => h)
                           clear ho hb)
                        | (go_at_call_of 58 (Value.slice a3 r.body.size c3); refine (text_w (.slice none 0 0) _ ByteArray.empty r.body w1 (BS.nil _) (HB.out.below B1.out) (by decide) (by omega)).mono ?_; rintro e w2 ⟨v2, rfl, ho, hb⟩
                           have B2 := Lib.hid (below_and B1.out hb)
                           have O12 := Lib.hid (O1.out.below hb)
                           have O2 := Lib.hid ho.bs
                           have SZ2 := SS.out (fun _ => False) w2 (Keep.ofBelow B2.out _) (fun h => h) (fun h => h) (fun h => h) (fun h => h) (fun h => h) (fun h => h)
                           clear ho hb)
                        | (go_at_call_of 58 (Value.slice a4 r.reply.size c4); refine (text_w v2 _ _ r.reply w2 O2.out (HR.out.below B2.out) (by simp only [size_append, lo4_size, show ByteArray.empty.size = 0 from rfl]; omega) (by omega)).mono ?_; rintro e w3 ⟨v3, rfl, ho, hb⟩
                           have B3 := Lib.hid (below_and B2.out hb)
                           have O13 := Lib.hid (O12.out.below hb)
                           have O3 := Lib.hid ho.bs
                           have SZ3 := SS.out (fun _ => False) w3 (Keep.ofBelow B3.out _) (fun h => h) (fun h => h) (fun h => h) (fun h => h) (fun h => h) (fun h => h)
                           clear ho hb)
                        | (go_at_call 57; refine (uint_w v3 _ r.seq hs.1 hs.2 w3 O3.out (by simp only [size_append, lo4_size, show ByteArray.empty.size = 0 from rfl]; omega)).mono ?_; rintro e w4 ⟨v4, rfl, ho, hb⟩
                           have B4 := Lib.hid (below_and B3.out hb)
                           have O14 := Lib.hid (O13.out.below hb)
                           have O4 := Lib.hid (show BS w4 v4 r.enc from ho.bs)
                           have SZ4 := SS.out (fun _ => False) w4 (Keep.ofBelow B4.out _) (fun h => h) (fun h => h) (fun h => h) (fun h => h) (fun h => h) (fun h => h)
                           clear ho hb)
                        | (go_at_call 22; refine (put_any p room b1 b2 now was v1 v4 (kb t x) r.enc w4 (HMD.out.below B4.out) O14.out O4.out hl).mono ?_; rintro e w5 ⟨rfl, hm, hk⟩
                           have M5 := Lib.hid hm
                           have hk5 := (Keep.ofBelow B4.out (fun i => i = b1)).trans hk (fun i hi => .inl hi)
                           have K5 := Lib.hid hk5
                           have SZ5 := SS.out _ w5 hk5 NB.out.1 NB.out.2.1 NB.out.2.2.1 NB.out.2.2.2.1 NB.out.2.2.2.2.1 NB.out.2.2.2.2.2
                           clear hm hk hk5))
                  refine hK.out _ _ ?_ (fun hHeld6 => ?_)
                  · (try dsimp only)
                    first | exact S0.out | exact SZ5 | exact SZ4 | exact SZ3 | exact SZ2 | exact SZ1
                  clear hK K hHeld5
                  try simp only [Act.put, List.setIfInBounds_toArray, List.set_cons_zero, List.set_cons_succ]
                  refine takeN (v := ?_) 14 rfl (by kernel_rfl) (by kernel_rfl) (by kernel_rfl) (fun _ _ _ h => h) (by rfl) ?_ hHeld6 ?_
                  rotate_left
                  · intro w hSw; (try dsimp only at hSw); go_simp; with_reducible rfl
                  try simp only [Act.put, List.setIfInBounds_toArray, List.set_cons_zero, List.set_cons_succ]
                  refine takeN (v := ?_) 15 rfl (by kernel_rfl) (by kernel_rfl) (by kernel_rfl) (fun _ _ _ h => h) (by rfl) ?_ hHeld6 ?_
                  rotate_left
                  · intro w hSw; (try dsimp only at hSw); go_simp; with_reducible rfl
                  try simp only [Act.put, List.setIfInBounds_toArray, List.set_cons_zero, List.set_cons_succ]
                  refine wpAnyH_done (by kernel_rfl) ?_ _
                  go_wp2
                  go_ret2
                  exact ⟨_, rfl, M5.out, (HKD.out.mono (fun _ h => h.elim)).trans K5.out (fun i hi => .inl hi)⟩
                exact AllReadyH.nil
              exact AllReadyH.nil
            exact AllReadyH.nil
          exact AllReadyH.nil
        exact AllReadyH.nil
      refine readyN rfl (fun K hK => ?_) ?_
      · -- operation 10
        go_simp
        refine hK.out _ _ ?_ (fun hHeld1 => ?_)
        · (try dsimp only)
          first | exact S0.out | exact SZ5 | exact SZ4 | exact SZ3 | exact SZ2 | exact SZ1
        clear hK K hHeld0
        try simp only [Act.put, List.setIfInBounds_toArray, List.set_cons_zero, List.set_cons_succ]
        refine takeN (v := ?_) 11 rfl (by kernel_rfl) (by kernel_rfl) (by kernel_rfl) (fun _ _ _ h => h) (by rfl) ?_ hHeld1 ?_
        rotate_left
        · intro w hSw; (try dsimp only at hSw); go_simp; with_reducible rfl
        try simp only [Act.put, List.setIfInBounds_toArray, List.set_cons_zero, List.set_cons_succ]
        refine takeN (v := ?_) 12 rfl (by kernel_rfl) (by kernel_rfl) (by kernel_rfl) (fun _ _ _ h => h) (by rfl) ?_ hHeld1 ?_
        rotate_left
        · intro w hSw; (try dsimp only at hSw); go_simp; with_reducible rfl
        try simp only [Act.put, List.setIfInBounds_toArray, List.set_cons_zero, List.set_cons_succ]
        refine wpAnyH_ready (rs := [3]) (by kernel_rfl) (by simp) ?_
        refine readyN rfl (fun K hK => ?_) ?_
        · -- operation 3
          go_simp
          first
            | (go_at_call 56; refine (HKY.out _).mono ?_; rintro e w1 ⟨v1, rfl, ho, hb⟩
               have B1 := Lib.hid hb
               have O1 := Lib.hid ho.bs
               have SZ1 := SS.out (fun _ => False) w1 (Keep.ofBelow hb _) (fun h => h) (fun h => h) (fun h => h) (fun h => h) (fun h => h) (fun h => h)
               clear ho hb)
            | (go_at_call_of 58 (Value.slice a3 r.body.size c3); refine (text_w (.slice none 0 0) _ ByteArray.empty r.body w1 (BS.nil _) (HB.out.below B1.out) (by decide) (by omega)).mono ?_; rintro e w2 ⟨v2, rfl, ho, hb⟩
               have B2 := Lib.hid (below_and B1.out hb)
               have O12 := Lib.hid (O1.out.below hb)
               have O2 := Lib.hid ho.bs
               have SZ2 := SS.out (fun _ => False) w2 (Keep.ofBelow B2.out _) (fun h => h) (fun h => h) (fun h => h) (fun h => h) (fun h => h) (fun h => h)
               clear ho hb)
            | (go_at_call_of 58 (Value.slice a4 r.reply.size c4); refine (text_w v2 _ _ r.reply w2 O2.out (HR.out.below B2.out) (by simp only [size_append, lo4_size, show ByteArray.empty.size = 0 from rfl]; omega) (by omega)).mono ?_; rintro e w3 ⟨v3, rfl, ho, hb⟩
               have B3 := Lib.hid (below_and B2.out hb)
               have O13 := Lib.hid (O12.out.below hb)
               have O3 := Lib.hid ho.bs
               have SZ3 := SS.out (fun _ => False) w3 (Keep.ofBelow B3.out _) (fun h => h) (fun h => h) (fun h => h) (fun h => h) (fun h => h) (fun h => h)
               clear ho hb)
            | (go_at_call 57; refine (uint_w v3 _ r.seq hs.1 hs.2 w3 O3.out (by simp only [size_append, lo4_size, show ByteArray.empty.size = 0 from rfl]; omega)).mono ?_; rintro e w4 ⟨v4, rfl, ho, hb⟩
               have B4 := Lib.hid (below_and B3.out hb)
               have O14 := Lib.hid (O13.out.below hb)
               have O4 := Lib.hid (show BS w4 v4 r.enc from ho.bs)
               have SZ4 := SS.out (fun _ => False) w4 (Keep.ofBelow B4.out _) (fun h => h) (fun h => h) (fun h => h) (fun h => h) (fun h => h) (fun h => h)
               clear ho hb)
            | (go_at_call 22; refine (put_any p room b1 b2 now was v1 v4 (kb t x) r.enc w4 (HMD.out.below B4.out) O14.out O4.out hl).mono ?_; rintro e w5 ⟨rfl, hm, hk⟩
               have M5 := Lib.hid hm
               have hk5 := (Keep.ofBelow B4.out (fun i => i = b1)).trans hk (fun i hi => .inl hi)
               have K5 := Lib.hid hk5
               have SZ5 := SS.out _ w5 hk5 NB.out.1 NB.out.2.1 NB.out.2.2.1 NB.out.2.2.2.1 NB.out.2.2.2.2.1 NB.out.2.2.2.2.2
               clear hm hk hk5)
          go_wp2_with fail
          refine hK.out _ _ ?_ (fun hHeld2 => ?_)
          · (try dsimp only)
            first | exact S0.out | exact SZ5 | exact SZ4 | exact SZ3 | exact SZ2 | exact SZ1
          clear hK K hHeld1
          try simp only [Act.put, List.setIfInBounds_toArray, List.set_cons_zero, List.set_cons_succ]
          refine wpAnyH_ready (rs := [5]) (by kernel_rfl) (by simp) ?_
          refine readyN rfl (fun K hK => ?_) ?_
          · -- operation 5
            go_simp
            first
              | (go_at_call 56; refine (HKY.out _).mono ?_; rintro e w1 ⟨v1, rfl, ho, hb⟩
                 have B1 := Lib.hid hb
                 have O1 := Lib.hid ho.bs
                 have SZ1 := SS.out (fun _ => False) w1 (Keep.ofBelow hb _) (fun h => h) (fun h => h) (fun h => h) (fun h => h) (fun h => h) (fun h => h)
                 clear ho hb)
              | (go_at_call_of 58 (Value.slice a3 r.body.size c3); refine (text_w (.slice none 0 0) _ ByteArray.empty r.body w1 (BS.nil _) (HB.out.below B1.out) (by decide) (by omega)).mono ?_; rintro e w2 ⟨v2, rfl, ho, hb⟩
                 have B2 := Lib.hid (below_and B1.out hb)
                 have O12 := Lib.hid (O1.out.below hb)
                 have O2 := Lib.hid ho.bs
                 have SZ2 := SS.out (fun _ => False) w2 (Keep.ofBelow B2.out _) (fun h => h) (fun h => h) (fun h => h) (fun h => h) (fun h => h) (fun h => h)
                 clear ho hb)
              | (go_at_call_of 58 (Value.slice a4 r.reply.size c4); refine (text_w v2 _ _ r.reply w2 O2.out (HR.out.below B2.out) (by simp only [size_append, lo4_size, show ByteArray.empty.size = 0 from rfl]; omega) (by omega)).mono ?_; rintro e w3 ⟨v3, rfl, ho, hb⟩
                 have B3 := Lib.hid (below_and B2.out hb)
                 have O13 := Lib.hid (O12.out.below hb)
                 have O3 := Lib.hid ho.bs
                 have SZ3 := SS.out (fun _ => False) w3 (Keep.ofBelow B3.out _) (fun h => h) (fun h => h) (fun h => h) (fun h => h) (fun h => h) (fun h => h)
                 clear ho hb)
              | (go_at_call 57; refine (uint_w v3 _ r.seq hs.1 hs.2 w3 O3.out (by simp only [size_append, lo4_size, show ByteArray.empty.size = 0 from rfl]; omega)).mono ?_; rintro e w4 ⟨v4, rfl, ho, hb⟩
                 have B4 := Lib.hid (below_and B3.out hb)
                 have O14 := Lib.hid (O13.out.below hb)
                 have O4 := Lib.hid (show BS w4 v4 r.enc from ho.bs)
                 have SZ4 := SS.out (fun _ => False) w4 (Keep.ofBelow B4.out _) (fun h => h) (fun h => h) (fun h => h) (fun h => h) (fun h => h) (fun h => h)
                 clear ho hb)
              | (go_at_call 22; refine (put_any p room b1 b2 now was v1 v4 (kb t x) r.enc w4 (HMD.out.below B4.out) O14.out O4.out hl).mono ?_; rintro e w5 ⟨rfl, hm, hk⟩
                 have M5 := Lib.hid hm
                 have hk5 := (Keep.ofBelow B4.out (fun i => i = b1)).trans hk (fun i hi => .inl hi)
                 have K5 := Lib.hid hk5
                 have SZ5 := SS.out _ w5 hk5 NB.out.1 NB.out.2.1 NB.out.2.2.1 NB.out.2.2.2.1 NB.out.2.2.2.2.1 NB.out.2.2.2.2.2
                 clear hm hk hk5)
            go_wp2_with fail
            refine hK.out _ _ ?_ (fun hHeld3 => ?_)
            · (try dsimp only)
              first | exact S0.out | exact SZ5 | exact SZ4 | exact SZ3 | exact SZ2 | exact SZ1
            clear hK K hHeld2
            try simp only [Act.put, List.setIfInBounds_toArray, List.set_cons_zero, List.set_cons_succ]
            refine wpAnyH_ready (rs := [7]) (by kernel_rfl) (by simp) ?_
            refine readyN rfl (fun K hK => ?_) ?_
            · -- operation 7
              go_simp
              first
                | (go_at_call 56; refine (HKY.out _).mono ?_; rintro e w1 ⟨v1, rfl, ho, hb⟩
                   have B1 := Lib.hid hb
                   have O1 := Lib.hid ho.bs
                   have SZ1 := SS.out (fun _ => False) w1 (Keep.ofBelow hb _) (fun h => h) (fun h => h) (fun h => h) (fun h => h) (fun h => h) (fun h => h)
                   clear ho hb)
                | (go_at_call_of 58 (Value.slice a3 r.body.size c3); refine (text_w (.slice none 0 0) _ ByteArray.empty r.body w1 (BS.nil _) (HB.out.below B1.out) (by decide) (by omega)).mono ?_; rintro e w2 ⟨v2, rfl, ho, hb⟩
                   have B2 := Lib.hid (below_and B1.out hb)
                   have O12 := Lib.hid (O1.out.below hb)
                   have O2 := Lib.hid ho.bs
                   have SZ2 := SS.out (fun _ => False) w2 (Keep.ofBelow B2.out _) (fun h => h) (fun h => h) (fun h => h) (fun h => h) (fun h => h) (fun h => h)
                   clear ho hb)
                | (go_at_call_of 58 (Value.slice a4 r.reply.size c4); refine (text_w v2 _ _ r.reply w2 O2.out (HR.out.below B2.out) (by simp only [size_append, lo4_size, show ByteArray.empty.size = 0 from rfl]; omega) (by omega)).mono ?_; rintro e w3 ⟨v3, rfl, ho, hb⟩
                   have B3 := Lib.hid (below_and B2.out hb)
                   have O13 := Lib.hid (O12.out.below hb)
                   have O3 := Lib.hid ho.bs
                   have SZ3 := SS.out (fun _ => False) w3 (Keep.ofBelow B3.out _) (fun h => h) (fun h => h) (fun h => h) (fun h => h) (fun h => h) (fun h => h)
                   clear ho hb)
                | (go_at_call 57; refine (uint_w v3 _ r.seq hs.1 hs.2 w3 O3.out (by simp only [size_append, lo4_size, show ByteArray.empty.size = 0 from rfl]; omega)).mono ?_; rintro e w4 ⟨v4, rfl, ho, hb⟩
                   have B4 := Lib.hid (below_and B3.out hb)
                   have O14 := Lib.hid (O13.out.below hb)
                   have O4 := Lib.hid (show BS w4 v4 r.enc from ho.bs)
                   have SZ4 := SS.out (fun _ => False) w4 (Keep.ofBelow B4.out _) (fun h => h) (fun h => h) (fun h => h) (fun h => h) (fun h => h) (fun h => h)
                   clear ho hb)
                | (go_at_call 22; refine (put_any p room b1 b2 now was v1 v4 (kb t x) r.enc w4 (HMD.out.below B4.out) O14.out O4.out hl).mono ?_; rintro e w5 ⟨rfl, hm, hk⟩
                   have M5 := Lib.hid hm
                   have hk5 := (Keep.ofBelow B4.out (fun i => i = b1)).trans hk (fun i hi => .inl hi)
                   have K5 := Lib.hid hk5
                   have SZ5 := SS.out _ w5 hk5 NB.out.1 NB.out.2.1 NB.out.2.2.1 NB.out.2.2.2.1 NB.out.2.2.2.2.1 NB.out.2.2.2.2.2
                   clear hm hk hk5)
              go_wp2_with fail
              refine hK.out _ _ ?_ (fun hHeld4 => ?_)
              · (try dsimp only)
                first | exact S0.out | exact SZ5 | exact SZ4 | exact SZ3 | exact SZ2 | exact SZ1
              clear hK K hHeld3
              try simp only [Act.put, List.setIfInBounds_toArray, List.set_cons_zero, List.set_cons_succ]
              refine wpAnyH_ready (rs := [9]) (by kernel_rfl) (by simp) ?_
              refine readyN rfl (fun K hK => ?_) ?_
              · -- operation 9
                go_simp
                first
                  | (go_at_call 56; refine (HKY.out _).mono ?_; rintro e w1 ⟨v1, rfl, ho, hb⟩
                     have B1 := Lib.hid hb
                     have O1 := Lib.hid ho.bs
                     have SZ1 := SS.out (fun _ => False) w1 (Keep.ofBelow hb _) (fun h => h) (fun h => h) (fun h => h) (fun h => h) (fun h => h) (fun h => h)
                     clear ho hb)
                  | (go_at_call_of 58 (Value.slice a3 r.body.size c3); refine (text_w (.slice none 0 0) _ ByteArray.empty r.body w1 (BS.nil _) (HB.out.below B1.out) (by decide) (by omega)).mono ?_; rintro e w2 ⟨v2, rfl, ho, hb⟩
                     have B2 := Lib.hid (below_and B1.out hb)
                     have O12 := Lib.hid (O1.out.below hb)
                     have O2 := Lib.hid ho.bs
                     have SZ2 := SS.out (fun _ => False) w2 (Keep.ofBelow B2.out _) (fun h => h) (fun h => h) (fun h => h) (fun h => h) (fun h => h) (fun h => h)
                     clear ho hb)
                  | (go_at_call_of 58 (Value.slice a4 r.reply.size c4); refine (text_w v2 _ _ r.reply w2 O2.out (HR.out.below B2.out) (by simp only [size_append, lo4_size, show ByteArray.empty.size = 0 from rfl]; omega) (by omega)).mono ?_; rintro e w3 ⟨v3, rfl, ho, hb⟩
                     have B3 := Lib.hid (below_and B2.out hb)
                     have O13 := Lib.hid (O12.out.below hb)
                     have O3 := Lib.hid ho.bs
                     have SZ3 := SS.out (fun _ => False) w3 (Keep.ofBelow B3.out _) (fun h => h) (fun h => h) (fun h => h) (fun h => h) (fun h => h) (fun h => h)
                     clear ho hb)
                  | (go_at_call 57; refine (uint_w v3 _ r.seq hs.1 hs.2 w3 O3.out (by simp only [size_append, lo4_size, show ByteArray.empty.size = 0 from rfl]; omega)).mono ?_; rintro e w4 ⟨v4, rfl, ho, hb⟩
                     have B4 := Lib.hid (below_and B3.out hb)
                     have O14 := Lib.hid (O13.out.below hb)
                     have O4 := Lib.hid (show BS w4 v4 r.enc from ho.bs)
                     have SZ4 := SS.out (fun _ => False) w4 (Keep.ofBelow B4.out _) (fun h => h) (fun h => h) (fun h => h) (fun h => h) (fun h => h) (fun h => h)
                     clear ho hb)
                  | (go_at_call 22; refine (put_any p room b1 b2 now was v1 v4 (kb t x) r.enc w4 (HMD.out.below B4.out) O14.out O4.out hl).mono ?_; rintro e w5 ⟨rfl, hm, hk⟩
                     have M5 := Lib.hid hm
                     have hk5 := (Keep.ofBelow B4.out (fun i => i = b1)).trans hk (fun i hi => .inl hi)
                     have K5 := Lib.hid hk5
                     have SZ5 := SS.out _ w5 hk5 NB.out.1 NB.out.2.1 NB.out.2.2.1 NB.out.2.2.2.1 NB.out.2.2.2.2.1 NB.out.2.2.2.2.2
                     clear hm hk hk5)
                go_wp2_with fail
                refine hK.out _ _ ?_ (fun hHeld5 => ?_)
                · (try dsimp only)
                  first | exact S0.out | exact SZ5 | exact SZ4 | exact SZ3 | exact SZ2 | exact SZ1
                clear hK K hHeld4
                try simp only [Act.put, List.setIfInBounds_toArray, List.set_cons_zero, List.set_cons_succ]
                refine wpAnyH_ready (rs := [13]) (by kernel_rfl) (by simp) ?_
                refine readyN rfl (fun K hK => ?_) ?_
                · -- operation 13
                  go_simp
                  go_wp2_with (
                      first
                        | (go_at_call 56; refine (HKY.out _).mono ?_; rintro e w1 ⟨v1, rfl, ho, hb⟩
                           have B1 := Lib.hid hb
                           have O1 := Lib.hid ho.bs
                           have SZ1 := SS.out (fun _ => False) w1 (Keep.ofBelow hb _) (fun h => h) (fun h => h) (fun h => h) (fun h => h) (fun h => h) (fun h => h)
                           clear ho hb)
                        | (go_at_call_of 58 (Value.slice a3 r.body.size c3); refine (text_w (.slice none 0 0) _ ByteArray.empty r.body w1 (BS.nil _) (HB.out.below B1.out) (by decide) (by omega)).mono ?_; rintro e w2 ⟨v2, rfl, ho, hb⟩
                           have B2 := Lib.hid (below_and B1.out hb)
                           have O12 := Lib.hid (O1.out.below hb)
                           have O2 := Lib.hid ho.bs
                           have SZ2 := SS.out (fun _ => False) w2 (Keep.ofBelow B2.out _) (fun h => h) (fun h => h) (fun h => h) (fun h => h) (fun h => h) (fun h => h)
                           clear ho hb)
                        | (go_at_call_of 58 (Value.slice a4 r.reply.size c4); refine (text_w v2 _ _ r.reply w2 O2.out (HR.out.below B2.out) (by simp only [size_append, lo4_size, show ByteArray.empty.size = 0 from rfl]; omega) (by omega)).mono ?_; rintro e w3 ⟨v3, rfl, ho, hb⟩
                           have B3 := Lib.hid (below_and B2.out hb)
                           have O13 := Lib.hid (O12.out.below hb)
                           have O3 := Lib.hid ho.bs
                           have SZ3 := SS.out (fun _ => False) w3 (Keep.ofBelow B3.out _) (fun h => h) (fun h => h) (fun h => h) (fun h => h) (fun h => h) (fun h => h)
                           clear ho hb)
                        | (go_at_call 57; refine (uint_w v3 _ r.seq hs.1 hs.2 w3 O3.out (by simp only [size_append, lo4_size, show ByteArray.empty.size = 0 from rfl]; omega)).mono ?_; rintro e w4 ⟨v4, rfl, ho, hb⟩
                           have B4 := Lib.hid (below_and B3.out hb)
                           have O14 := Lib.hid (O13.out.below hb)
                           have O4 := Lib.hid (show BS w4 v4 r.enc from ho.bs)
                           have SZ4 := SS.out (fun _ => False) w4 (Keep.ofBelow B4.out _) (fun h => h) (fun h => h) (fun h => h) (fun h => h) (fun h => h) (fun h => h)
                           clear ho hb)
                        | (go_at_call 22; refine (put_any p room b1 b2 now was v1 v4 (kb t x) r.enc w4 (HMD.out.below B4.out) O14.out O4.out hl).mono ?_; rintro e w5 ⟨rfl, hm, hk⟩
                           have M5 := Lib.hid hm
                           have hk5 := (Keep.ofBelow B4.out (fun i => i = b1)).trans hk (fun i hi => .inl hi)
                           have K5 := Lib.hid hk5
                           have SZ5 := SS.out _ w5 hk5 NB.out.1 NB.out.2.1 NB.out.2.2.1 NB.out.2.2.2.1 NB.out.2.2.2.2.1 NB.out.2.2.2.2.2
                           clear hm hk hk5))
                  refine hK.out _ _ ?_ (fun hHeld6 => ?_)
                  · (try dsimp only)
                    first | exact S0.out | exact SZ5 | exact SZ4 | exact SZ3 | exact SZ2 | exact SZ1
                  clear hK K hHeld5
                  try simp only [Act.put, List.setIfInBounds_toArray, List.set_cons_zero, List.set_cons_succ]
                  refine takeN (v := ?_) 14 rfl (by kernel_rfl) (by kernel_rfl) (by kernel_rfl) (fun _ _ _ h => h) (by rfl) ?_ hHeld6 ?_
                  rotate_left
                  · intro w hSw; (try dsimp only at hSw); go_simp; with_reducible rfl
                  try simp only [Act.put, List.setIfInBounds_toArray, List.set_cons_zero, List.set_cons_succ]
                  refine takeN (v := ?_) 15 rfl (by kernel_rfl) (by kernel_rfl) (by kernel_rfl) (fun _ _ _ h => h) (by rfl) ?_ hHeld6 ?_
                  rotate_left
                  · intro w hSw; (try dsimp only at hSw); go_simp; with_reducible rfl
                  try simp only [Act.put, List.setIfInBounds_toArray, List.set_cons_zero, List.set_cons_succ]
                  refine wpAnyH_done (by kernel_rfl) ?_ _
                  go_wp2
                  go_ret2
                  exact ⟨_, rfl, M5.out, (HKD.out.mono (fun _ h => h.elim)).trans K5.out (fun i hi => .inl hi)⟩
                exact AllReadyH.nil
              exact AllReadyH.nil
            exact AllReadyH.nil
          exact AllReadyH.nil
        exact AllReadyH.nil
      exact AllReadyH.nil
/-- what Keep answers and leaves -/
def keepE (room : Int) (now : AL) (F : IxF) (t : Int) (x : ByteArray) (r : Rec) : Int := if chk x = false then 1 else keepC room now t x r (F t x).isSome
def keepA (room : Int) (now : AL) (F : IxF) (t : Int) (x : ByteArray) (r : Rec) : AL := if keepE room now F t x r = 0 then AL.put (kb t x) r.enc now else now
def keepF (room : Int) (now : AL) (F : IxF) (t : Int) (x : ByteArray) (r : Rec) : IxF := if keepE room now F t x r = 0 then (fun t' x' => if t' = t ∧ x' = x then some r else F t' x') else F
theorem keep_idx {room : Int} {now : AL} {F : IxF} {t : Int} {x : ByteArray} {r : Rec} (h : Idx now F) (h0 : 0 ≤ t) (h1 : t ≤ 4294967295) (hs : 0 ≤ r.seq ∧ r.seq ≤ 18446744073709551615) : Idx (keepA room now F t x r) (keepF room now F t x r) := by
  unfold keepA keepF
  by_cases he : keepE room now F t x r = 0
  · rw [if_pos he, if_pos he]
    have hok : r.Ok := by
      refine ⟨?_, hs⟩
      unfold keepE at he
      split at he
      · cases he
      · unfold keepC at he
        split at he
        · cases he
        · split at he
          · cases he
          · omega
    refine ⟨fun t' x' h0' h1' hx' => ?_, fun t' x' r' hr' => ?_⟩
    · by_cases hk : t' = t ∧ x' = x
      · obtain ⟨rfl, rfl⟩ := hk
        rw [get_put_eq, if_pos ⟨rfl, rfl⟩]; rfl
      · rw [if_neg hk, get_put_ne, h.get t' x' h0' h1' hx']
        intro e
        exact hk (kb_inj h0' h1' h0 h1 e)
    · split at hr'
      · cases hr'; exact hok
      · exact h.ok t' x' r' hr'
  · rw [if_neg he, if_neg he]; exact h
theorem keep_any (p : Nat) (room : Int) (b1 b2 : Nat) (now was : AL) (F : IxF) (t : Int) (h0 : 0 ≤ t) (h1 : t ≤ 4294967295) (x : ByteArray) (r : Rec) (bv rv : Value) (w : World) (hM : MemIs w p room b1 b2 now was) (hI : Idx now F) (hx : x.size ≤ maxLen) (hb : BS w bv r.body) (hr : BS w rv r.reply)
    (hbl : r.body.size ≤ 17592186044416) (hrl : r.reply.size ≤ 17592186044416) (hs : 0 ≤ r.seq ∧ r.seq ≤ 18446744073709551615) (hl : now.length ≤ 9223372036854775807) :
    Calls Try.prog 34 #[sV p, .int .u32 t, .string x, bv, rv, .int .u64 r.seq] w fun e w' => e = .returned (.int .i64 (keepE room now F t x r)) ∧ MemIs w' p room b1 b2 (keepA room now F t x r) was ∧ Keep (fun i => i = b1) w w' := by
  obtain ⟨ab, cb, rfl⟩ := hb.len
  obtain ⟨ar, cr, rfl⟩ := hr.len
  obtain ⟨wb, hwb⟩ : ∃ wb, wb = (((((w.alloc (.cells #[.iface 29 (.pointer (some ⟨p, 0, none⟩))] 95)).alloc (.cells #[.int .u32 t] 57)).alloc (.cells #[.string x] 9)).alloc (.cells #[.slice ab r.body.size cb] 23)).alloc (.cells #[.slice ar r.reply.size cr] 23)).alloc (.cells #[.int .u64 r.seq] 42) := ⟨_, rfl⟩
  have hb0 : Below w.heap.size w wb := by rw [hwb]; exact (((((Below.refl _ _).alloc (Nat.le_refl _) _).alloc (by simp) _).alloc (by simp; omega) _).alloc (by simp; omega) _).alloc (by simp; omega) _ |>.alloc (by simp; omega) _
  have c1 : wb.heap[w.heap.size]? = some (.cells #[.iface 29 (.pointer (some ⟨p, 0, none⟩))] 95 (0, 0)) := by rw [hwb]; exact blk_alloc (blk_alloc (blk_alloc (blk_alloc (blk_alloc (blk_new w _) _) _) _) _) _
  have c2 : wb.heap[w.heap.size + 1]? = some (.cells #[.int .u32 t] 57 (0, 0)) := by rw [hwb]; exact blk_alloc (blk_alloc (blk_alloc (blk_alloc (blk_newAt (by simp) _) _) _) _) _
  have c3 : wb.heap[w.heap.size + 2]? = some (.cells #[.string x] 9 (0, 0)) := by rw [hwb]; exact blk_alloc (blk_alloc (blk_alloc (blk_newAt (by simp) _) _) _) _
  have c4 : wb.heap[w.heap.size + 3]? = some (.cells #[.slice ab r.body.size cb] 23 (0, 0)) := by rw [hwb]; exact blk_alloc (blk_alloc (blk_newAt (by simp) _) _) _
  have c5 : wb.heap[w.heap.size + 4]? = some (.cells #[.slice ar r.reply.size cr] 23 (0, 0)) := by rw [hwb]; exact blk_alloc (blk_newAt (by simp) _) _
  have c6 : wb.heap[w.heap.size + 5]? = some (.cells #[.int .u64 r.seq] 42 (0, 0)) := by rw [hwb]; exact blk_newAt (by simp) _
  have d1 : wb.cell? ⟨w.heap.size, 0, none⟩ = some (.iface 29 (.pointer (some ⟨p, 0, none⟩))) := by rw [blk_cell c1]; rfl
  have d2 : wb.cell? ⟨w.heap.size + 1, 0, none⟩ = some (.int .u32 t) := by rw [blk_cell c2]; rfl
  have d3 : wb.cell? ⟨w.heap.size + 2, 0, none⟩ = some (.string x) := by rw [blk_cell c3]; rfl
  have d4 : wb.cell? ⟨w.heap.size + 3, 0, none⟩ = some (.slice ab r.body.size cb) := by rw [blk_cell c4]; rfl
  have d5 : wb.cell? ⟨w.heap.size + 4, 0, none⟩ = some (.slice ar r.reply.size cr) := by rw [blk_cell c5]; rfl
  have d6 : wb.cell? ⟨w.heap.size + 5, 0, none⟩ = some (.int .u64 r.seq) := by rw [blk_cell c6]; rfl
  cases hch : chk x with
  | false =>
    have E := Lib.hid (show keepE room now F t x r = 1 by unfold keepE; rw [if_pos hch])
    have EA := Lib.hid (show keepA room now F t x r = now by unfold keepA; rw [E.out]; rfl)
    rw [E.out, EA.out]
    have HL := Lib.hid (look_k_bad p t x (.func (Fn.func 55) #[] #[.pointer (some ⟨w.heap.size + 3, 0, none⟩), .pointer (some ⟨w.heap.size + 4, 0, none⟩), .pointer (some ⟨w.heap.size, 0, none⟩), .pointer (some ⟨w.heap.size + 1, 0, none⟩), .pointer (some ⟨w.heap.size + 2, 0, none⟩), .pointer (some ⟨w.heap.size + 5, 0, none⟩)]) wb hch hx)
    have HB0 := Lib.hid hb0
    have HMB := Lib.hid (hM.below hb0)
    unfold sV pV at *
    rw [hwb] at HL HB0 HMB
    clear hM hI hb hr hch c1 c2 c3 c4 c5 c6 d1 d2 d3 d4 d5 d6 hb0 hwb
    go_enter Try.func34, Try.ntmps34
    go_wp2_with fail
    refine HL.out.mono ?_
    rintro e w1 ⟨rfl, rfl⟩
    go_wp2
    go_ret
    exact ⟨rfl, HMB.out, Keep.ofBelow HB0.out _⟩
  | true =>
    have hxl : x.size ≤ 16 := by unfold chk at hch; simp at hch; omega
    have E := Lib.hid (show keepE room now F t x r = keepC room now t x r (F t x).isSome by unfold keepE; rw [hch]; rfl)
    have EA := Lib.hid (show keepA room now F t x r = keepN room now t x r (F t x).isSome by unfold keepA keepN; rw [E.out])
    rw [E.out, EA.out]
    have HL := Lib.hid (look_k p room b1 b2 now was t h0 h1 x hch (w.heap.size + 3) (w.heap.size + 4) w.heap.size (w.heap.size + 1) (w.heap.size + 2) (w.heap.size + 5) wb (hM.below hb0) (recD (F t x)) (F t x).isSome (hI.told h0 h1 hch)
      (fun u c W' => c = keepC room now t x r (F t x).isSome ∧ MemIs W' p room b1 b2 (keepN room now t x r (F t x).isSome) was ∧ Keep (fun i => i = b1) w W')
      (fun W bv0 rv0 hbv hrv hW => by
        have hk0 := (Keep.ofBelow hW (fun _ => False))
        refine (keepc (w.heap.size + 3) (w.heap.size + 4) w.heap.size (w.heap.size + 1) (w.heap.size + 2) (w.heap.size + 5) p room b1 b2 now was bv0 rv0 _ _ (recD (F t x)) r t h0 h1 x hxl hs (F t x).isSome W hbv hrv ((hb.below hb0).below hW) ((hr.below hb0).below hW) hbl hrl ((hM.below hb0).below hW) hl
          (hk0.cell d4 (fun h => h)) (hk0.cell d5 (fun h => h)) (hk0.cell d1 (fun h => h)) (hk0.cell d2 (fun h => h)) (hk0.cell d3 (fun h => h)) (hk0.cell d6 (fun h => h))).mono ?_
        rintro e W' ⟨u, rfl, g1, g2⟩
        exact ⟨u, _, rfl, rfl, g1, (Keep.ofBelow (hb0.trans (hW.mono hb0.size)) (fun i => i = b1)).trans g2 (fun i hi => .inl hi)⟩))
    obtain ⟨C, hC⟩ : ∃ C, C = keepC room now t x r (F t x).isSome := ⟨_, rfl⟩
    obtain ⟨N, hN⟩ : ∃ N, N = keepN room now t x r (F t x).isSome := ⟨_, rfl⟩
    rw [← hC, ← hN] at HL ⊢
    unfold sV pV at *
    rw [hwb] at HL
    clear hM hI hb hr hch c1 c2 c3 c4 c5 c6 d1 d2 d3 d4 d5 d6 hb0 hwb hC hN E EA
    go_enter Try.func34, Try.ntmps34
    go_wp2_with fail
    refine HL.out.mono ?_
    rintro e w1 ⟨u, c, rfl, rfl, g1, g2⟩
    have G1 := Lib.hid g1
    have G2 := Lib.hid g2
    clear g1 g2 HL
    go_wp2
    go_ret
    exact ⟨rfl, G1.out, G2.out⟩
end Go.Proofs.Ytiadoimdohnebaa
