/- The document's index of keys (chapter 18): the walks of its Find, Seq, Keep. -/
import Derived.Test.YtiadoimdohnebaaRef18
import Derived.Test.YtiadoimdohnebaaApp
import Derived.Maps.AppendAt
import Derived.Deep.DeepCutAuto
namespace Go.Proofs.Ytiadoimdohnebaa
open Go.RowKit
set_option maxRecDepth 100000
set_option maxHeartbeats 1000000
set_option linter.unusedVariables false
set_option linter.unusedSimpArgs false
/-- what an index answers -/
def ixf (l : List K18) : IxF := fun t x => ((atK t x l).bind fun i => l[i]?).map K18.rec_
theorem ixf_none {l : List K18} {t : Int} {x : ByteArray} (h : atK t x l = none) : ixf l t x = none := by unfold ixf; rw [h]; rfl
theorem ixf_some {l : List K18} {t : Int} {x : ByteArray} {i : Nat} {k : K18} (h : atK t x l = some i) (hk : l[i]? = some k) : ixf l t x = some k.rec_ := by unfold ixf; rw [h, Option.bind_some, hk]; rfl
section
variable {w : World} {B p : Nat} {v : Value} {l : List K18}
theorem rfind_any (t : Int) (x body : ByteArray) (hX : IxIs w B p v l) (hl : l.length ≤ 1000000) (hx : x.size ≤ maxLen) :
    Calls Try.prog 33 #[.pointer (some ⟨p, 0, none⟩), .int .u32 t, .string x, .string body] w fun e w' => e = .returned (.tuple #[.string (findR (ixf l) t x body).1, .bool (findR (ixf l) t x body).2.1, .int .i64 (findR (ixf l) t x body).2.2]) ∧ w' = w := by
  have HC := Lib.hid (chk18_any x hx w)
  have HAT := Lib.hid (at_any t x hX hl)
  cases hch : chk x with
  | false =>
    have E := Lib.hid (show findR (ixf l) t x body = (ByteArray.empty, false, 1) by unfold findR; rw [if_pos hch])
    rw [E.out]
    rw [hch] at HC
    clear hX hch
    go_enter Try.func33, Try.ntmps33
    go_wp2_with fail
    refine HC.out.mono ?_
    rintro e w1 ⟨rfl, hw⟩
    obtain rfl := hw.symm
    go_wp2
    go_ret3
    exact ⟨rfl, rfl⟩
  | true =>
    have E : findR (ixf l) t x body = fr (ixf l t x).isSome (recD (ixf l t x)) body := by unfold findR; rw [hch]; rfl
    rw [hch] at HC
    cases ha : atK t x l with
    | none =>
      have E2 := Lib.hid (show findR (ixf l) t x body = (ByteArray.empty, false, 0) by rw [E, ixf_none ha]; rfl)
      rw [E2.out]
      rw [ha] at HAT
      clear hX hch E ha
      go_enter Try.func33, Try.ntmps33
      go_wp2_with fail
      refine HC.out.mono ?_
      rintro e w1 ⟨rfl, hw⟩
      obtain rfl := hw.symm
      go_wp2_with fail
      refine HAT.out.mono ?_
      rintro e w1 ⟨rfl, hw⟩
      obtain rfl := hw.symm
      unfold atI
      simp only
      go_wp2
      go_ret3
      exact ⟨rfl, rfl⟩
    | some i =>
      obtain ⟨k, hk, _⟩ := atK_get t x l i ha
      have hi := (List.getElem?_eq_some_iff.1 hk).1
      rw [ha] at HAT
      obtain ⟨g, cap, rfl, k0, k1, k2, k3, k4⟩ := hX.at_ hk
      have hc0 : w.cell? ⟨p, 0, none⟩ = some (.slice (some ⟨g, 0, none⟩) l.length cap) := by rw [blk_cell hX.blk]; rfl
      have i1 : decide ((i : Int) < 0) = false := decide_eq_false (by omega)
      by_cases hb : k.body = body
      · have E2 := Lib.hid (show findR (ixf l) t x body = (k.reply, true, 0) by rw [E, ixf_some ha hk]; show (if true = false then _ else _) = _; rw [if_neg (by decide)]; show (if k.body = body then _ else _) = _; rw [if_pos hb]; rfl)
        rw [E2.out]
        have i3 : (k.body.toList == body.toList) = true := by rw [hb]; exact beq_iff_eq.2 rfl
        clear hX hch E ha hk hb
        go_enter Try.func33, Try.ntmps33
        go_wp2_with fail
        refine HC.out.mono ?_
        rintro e w1 ⟨rfl, hw⟩
        obtain rfl := hw.symm
        go_wp2_with fail
        refine HAT.out.mono ?_
        rintro e w1 ⟨rfl, hw⟩
        obtain rfl := hw.symm
        unfold atI
        simp only
        go_wp2_with fail
        go_ret3
        exact ⟨rfl, rfl⟩
      · have E2 := Lib.hid (show findR (ixf l) t x body = (ByteArray.empty, false, 41) by rw [E, ixf_some ha hk]; show (if true = false then _ else _) = _; rw [if_neg (by decide)]; show (if k.body = body then _ else _) = _; rw [if_neg hb])
        rw [E2.out]
        have i3 : (k.body.toList == body.toList) = false := by rw [← beq_toListBytes]; exact Bool.eq_false_iff.2 (fun h => hb ((Go.MapKept.bytes_beq _ _).1 h))
        clear hX hch E ha hk hb
        go_enter Try.func33, Try.ntmps33
        go_wp2_with fail
        refine HC.out.mono ?_
        rintro e w1 ⟨rfl, hw⟩
        obtain rfl := hw.symm
        go_wp2_with fail
        refine HAT.out.mono ?_
        rintro e w1 ⟨rfl, hw⟩
        obtain rfl := hw.symm
        unfold atI
        simp only
        go_wp2_with fail
        go_ret3
        exact ⟨rfl, rfl⟩
theorem rseq_any (t : Int) (x : ByteArray) (hX : IxIs w B p v l) (hl : l.length ≤ 1000000) (hx : x.size ≤ maxLen) :
    Calls Try.prog 37 #[.pointer (some ⟨p, 0, none⟩), .int .u32 t, .string x] w fun e w' => e = .returned (.tuple #[.int .u64 (seqR (ixf l) t x).1, .int .i64 (seqR (ixf l) t x).2]) ∧ w' = w := by
  have HC := Lib.hid (chk18_any x hx w)
  have HAT := Lib.hid (at_any t x hX hl)
  cases hch : chk x with
  | false =>
    have E := Lib.hid (show seqR (ixf l) t x = (0, 1) by unfold seqR; rw [if_pos hch])
    rw [E.out]
    rw [hch] at HC
    clear hX hch
    go_enter Try.func37, Try.ntmps37
    go_wp2_with fail
    refine HC.out.mono ?_
    rintro e w1 ⟨rfl, hw⟩
    obtain rfl := hw.symm
    go_wp2
    go_ret2
    exact ⟨rfl, rfl⟩
  | true =>
    rw [hch] at HC
    cases ha : atK t x l with
    | none =>
      have E2 := Lib.hid (show seqR (ixf l) t x = (0, 4) by unfold seqR; rw [if_neg (by rw [hch]; decide), ixf_none ha])
      rw [E2.out]
      rw [ha] at HAT
      clear hX hch ha
      go_enter Try.func37, Try.ntmps37
      go_wp2_with fail
      refine HC.out.mono ?_
      rintro e w1 ⟨rfl, hw⟩
      obtain rfl := hw.symm
      go_wp2_with fail
      refine HAT.out.mono ?_
      rintro e w1 ⟨rfl, hw⟩
      obtain rfl := hw.symm
      unfold atI
      simp only
      go_wp2
      go_ret2
      exact ⟨rfl, rfl⟩
    | some i =>
      obtain ⟨k, hk, _⟩ := atK_get t x l i ha
      have hi := (List.getElem?_eq_some_iff.1 hk).1
      rw [ha] at HAT
      obtain ⟨g, cap, rfl, k0, k1, k2, k3, k4⟩ := hX.at_ hk
      have hc0 : w.cell? ⟨p, 0, none⟩ = some (.slice (some ⟨g, 0, none⟩) l.length cap) := by rw [blk_cell hX.blk]; rfl
      have i1 : decide ((i : Int) < 0) = false := decide_eq_false (by omega)
      have E2 := Lib.hid (show seqR (ixf l) t x = (k.seq, 0) by unfold seqR; rw [if_neg (by rw [hch]; decide), ixf_some ha hk]; rfl)
      rw [E2.out]
      clear hX hch ha hk
      go_enter Try.func37, Try.ntmps37
      go_wp2_with fail
      refine HC.out.mono ?_
      rintro e w1 ⟨rfl, hw⟩
      obtain rfl := hw.symm
      go_wp2_with fail
      refine HAT.out.mono ?_
      rintro e w1 ⟨rfl, hw⟩
      obtain rfl := hw.symm
      unfold atI
      simp only
      go_wp2_with fail
      go_ret2
      exact ⟨rfl, rfl⟩
/-- what Keep comes to -/
def rkeepE (l : List K18) (k : K18) : Int := if chk k.text = false then 1 else if (ixf l k.ten k.text).isSome = true then 5 else if 900 < k.body.size + k.reply.size then 2 else 0
def rkeepL (l : List K18) (k : K18) : List K18 := if rkeepE l k = 0 then l ++ [k] else l
theorem uKept : Try.prog.underlying 54 = some (.slice 67) := by kernel_rfl
theorem iKept : (Try.prog.info? 67).map (fun i => (i.zero, i.size, i.bytes)) = some (some (.agg #[.int .u32 0, .string ByteArray.empty, .string ByteArray.empty, .string ByteArray.empty, .int .u64 0]), 5, 64) := by kernel_rfl
/-- the own blocks of an index -/
def IXF (p : Nat) (v : Value) (i : Nat) : Prop := i = p ∨ v.ownBlock = some i
theorem rkeep_any (k : K18) (hX : IxIs w B p v l) (hl : l.length ≤ 1000000) (hx : k.text.size ≤ maxLen) (hb : k.body.size ≤ 17592186044416) (hr : k.reply.size ≤ 17592186044416) :
    Calls Try.prog 35 #[.pointer (some ⟨p, 0, none⟩), .agg k.cells.toArray] w fun e w' => e = .returned (.int .i64 (rkeepE l k)) ∧ ∃ v', IxIs w' B p v' (rkeepL l k) ∧ Keep (IXF p v) w w' ∧ ∀ i, v'.ownBlock = some i → v.ownBlock = some i ∨ w.heap.size ≤ i := by
  obtain ⟨ten, text, body, reply, seq⟩ := k
  simp only at hx hb hr
  obtain ⟨va, vc, rfl⟩ := hX.shape
  have hAl : Below w.heap.size w (w.alloc (.cells #[.int .u32 ten, .string text, .string body, .string reply, .int .u64 seq] 67)) := (Below.refl _ _).alloc (Nat.le_refl _) _
  have HC := Lib.hid (chk18_any text hx (w.alloc (.cells #[.int .u32 ten, .string text, .string body, .string reply, .int .u64 seq] 67)))
  have HXA := Lib.hid (hX.below hAl)
  have HAT := Lib.hid (at_any ten text (hX.below hAl) hl)
  have HKA := Lib.hid (Keep.ofBelow hAl (IXF p (.slice va l.length vc)))
  clear hAl
  show Calls Try.prog 35 #[.pointer (some ⟨p, 0, none⟩), .agg #[.int .u32 ten, .string text, .string body, .string reply, .int .u64 seq]] w _
  obtain ⟨E, hE⟩ : ∃ E, E = rkeepE l ⟨ten, text, body, reply, seq⟩ := ⟨_, rfl⟩
  obtain ⟨L, hL⟩ : ∃ L, L = rkeepL l ⟨ten, text, body, reply, seq⟩ := ⟨_, rfl⟩
  rw [← hE, ← hL]
  unfold rkeepL at hL
  rw [← hE] at hL
  unfold rkeepE at hE
  simp only at hE
  cases hch : chk text with
  | false =>
    rw [hch] at HC
    rw [hch, if_pos rfl] at hE
    subst hE
    rw [if_neg (by decide)] at hL
    subst hL
    clear hX hch
    go_enter Try.func35, Try.ntmps35
    go_wp2_with fail
    refine HC.out.mono ?_
    rintro e w1 ⟨rfl, rfl⟩
    go_wp2_with fail
    go_ret
    exact ⟨rfl, _, HXA.out, HKA.out, fun i hi => .inl hi⟩
  | true =>
    rw [hch] at HC
    rw [hch, if_neg (by decide)] at hE
    cases ha : atK ten text l with
    | some i =>
      obtain ⟨k, hk, _⟩ := atK_get ten text l i ha
      rw [ixf_some ha hk, if_pos (show (some k.rec_).isSome = true from rfl)] at hE
      rw [ha] at HAT
      subst hE
      rw [if_neg (by decide)] at hL
      subst hL
      clear hX hch ha hk
      go_enter Try.func35, Try.ntmps35
      go_wp2_with fail
      refine HC.out.mono ?_
      rintro e w1 ⟨rfl, hw⟩
      obtain rfl := hw.symm
      go_wp2_with fail
      refine HAT.out.mono ?_
      rintro e w1 ⟨rfl, hw⟩
      obtain rfl := hw.symm
      unfold atI
      simp only
      have i1 : decide ((i : Int) ≥ 0) = true := decide_eq_true (by omega)
      go_wp2_with fail
      go_ret
      exact ⟨rfl, _, HXA.out, HKA.out, fun i hi => .inl hi⟩
    | none =>
      rw [ixf_none ha, if_neg (show ¬ (none : Option Rec).isSome = true by decide)] at hE
      rw [ha] at HAT
      by_cases hlong : 900 < body.size + reply.size
      · rw [if_pos hlong] at hE
        subst hE
        rw [if_neg (by decide)] at hL
        subst hL
        have i2 : decide ((body.size : Int) + (reply.size : Int) > 900) = true := decide_eq_true (by omega)
        clear hX hch ha
        go_enter Try.func35, Try.ntmps35
        go_wp2_with fail
        refine HC.out.mono ?_
        rintro e w1 ⟨rfl, hw⟩
        obtain rfl := hw.symm
        go_wp2_with fail
        refine HAT.out.mono ?_
        rintro e w1 ⟨rfl, hw⟩
        obtain rfl := hw.symm
        unfold atI
        simp only
        go_wp2_with fail
        go_ret
        exact ⟨rfl, _, HXA.out, HKA.out, fun i hi => .inl hi⟩
      · rw [if_neg hlong] at hE
        subst hE
        rw [if_pos rfl] at hL
        subst hL
        have i2 : decide ((body.size : Int) + (reply.size : Int) > 900) = false := decide_eq_false (by omega)
        clear hch ha
        go_enter Try.func35, Try.ntmps35
        go_wp2_with fail
        refine HC.out.mono ?_
        rintro e w1 ⟨rfl, hw⟩
        obtain rfl := hw.symm
        go_wp2_with fail
        refine HAT.out.mono ?_
        rintro e w1 ⟨rfl, hw⟩
        obtain rfl := hw.symm
        unfold atI
        simp only
        obtain ⟨W, hW⟩ : ∃ W, W = w.alloc (.cells #[.int .u32 ten, .string text, .string body, .string reply, .int .u64 seq] 67) := ⟨_, rfl⟩
        have hq0 : W.heap[w.heap.size]? = some (.cells #[.int .u32 ten, .string text, .string body, .string reply, .int .u64 seq] 67 (0, 0)) := by rw [hW]; exact blk_new w _
        have hWs : W.heap.size = w.heap.size + 1 := by rw [hW]; simp
        rw [← hW] at HXA HKA
        obtain ⟨i0, hi, hzz⟩ := Option.map_eq_some_iff.1 iKept
        simp only [Prod.mk.injEq] at hzz
        obtain ⟨hz0, hz1, hz2⟩ := hzz
        have hown : (W.drew.alloc (.cells #[.int .u32 ten, .string text, .string body, .string reply, .int .u64 seq] 67)).ownsRow B 67 5 (.slice va l.length vc) l.length (l.flatMap K18.cells) := (HXA.out.below (((Below.refl W.heap.size W).drew).alloc (Nat.le_refl _) _)).row
        have hBp : B ≤ w.heap.size := Nat.le_trans hX.low (Nat.le_of_lt (blk_lt hX.blk))
        obtain ⟨v2, w2, hap, ho2, hg2, _, hat2⟩ := run_append_own_at (P := Try.prog) (W.drew.alloc (.cells #[.int .u32 ten, .string text, .string body, .string reply, .int .u64 seq] 67)) B 54 54 67 i0 _ 5 64 uKept hi hz0 hz1 hz2 (by rfl) (by decide) (.slice va l.length vc) l.length (l.flatMap K18.cells) hown ⟨W.heap.size, 0, none⟩ 1 1 [.int .u32 ten, .string text, .string body, .string reply, .int .u64 seq] rfl
          (World.news_of_block (cs := #[.int .u32 ten, .string text, .string body, .string reply, .int .u64 seq]) (t := 67) (fr := (0, 0)) (blk_newAt (by simp) _)) (by simp [Value.oneCell']) (by unfold maxLen; omega) (by omega) (by simp; omega)
        obtain ⟨g2, cap2, rfl⟩ : ∃ g2 cap2, v2 = .slice (some ⟨g2, 0, none⟩) (l.length + 1) cap2 := by
          rcases ho2.2 with ⟨_, h0⟩ | ⟨g, cap, cur, he, _⟩
          · omega
          · exact ⟨g, cap, he⟩
        have hplt : p < w.heap.size := blk_lt hX.blk
        have k1 : Keep (IXF p (.slice va l.length vc)) W (W.drew.alloc (.cells #[.int .u32 ten, .string text, .string body, .string reply, .int .u64 seq] 67)) := ((Keep.refl _ _).drew).alloc _
        have k2 : Keep (IXF p (.slice va l.length vc)) W w2 := k1.trans (keep_grown hg2) (fun i hi => .inl (.inr hi))
        have hb2 : w2.heap[p]? = some (.cells #[.slice va l.length vc] 56 (0, 0)) := by
          rw [(keep_grown hg2).block p (by simp; omega) (fun e => hX.ne e)]
          exact blk_alloc HXA.out.blk _
        have hcz2 : w2.cell? ⟨p, 0, none⟩ = some (.slice va l.length vc) := by rw [blk_cell hb2]; rfl
        have hfz2 := blk_frozen hb2 0
        have k3 : Keep (IXF p (.slice va l.length vc)) W (w2.setCell ⟨p, 0, none⟩ (.slice (some ⟨g2, 0, none⟩) (l.length + 1) cap2)) := k2.setCell (p := ⟨p, 0, none⟩) (.inl (.inl rfl)) _
        have hnq : ¬ IXF p (.slice va l.length vc) w.heap.size := by
          rintro (e | e)
          · omega
          · obtain ⟨_, c, hc⟩ := hX.blk_row e
            have := blk_lt hc; omega
        have hq2 : ∀ w', Keep (IXF p (.slice va l.length vc)) W w' → w'.cell? ⟨w.heap.size, 0, none⟩ = some (.int .u32 ten) ∧ w'.cell? ⟨w.heap.size, 1, none⟩ = some (.string text) ∧ w'.cell? ⟨w.heap.size, 2, none⟩ = some (.string body) ∧ w'.cell? ⟨w.heap.size, 3, none⟩ = some (.string reply) ∧ w'.cell? ⟨w.heap.size, 4, none⟩ = some (.int .u64 seq) := fun w' hk => by
          have h := hk.blk hq0 hnq
          exact ⟨by rw [blk_cell h]; rfl, by rw [blk_cell h]; rfl, by rw [blk_cell h]; rfl, by rw [blk_cell h]; rfl, by rw [blk_cell h]; rfl⟩
        have HQ2 := Lib.hid hq2
        obtain ⟨m0, m1, m2, m3, m4⟩ := hq2 W (Keep.refl _ _)
        have hp0 : W.cell? ⟨p, 0, none⟩ = some (.slice va l.length vc) := by rw [blk_cell HXA.out.blk]; rfl
        have hp1 : W.drew.cell? ⟨p, 0, none⟩ = some (.slice va l.length vc) := hp0
        have hp2 : (W.drew.alloc (.cells #[.int .u32 ten, .string text, .string body, .string reply, .int .u64 seq] 67)).cell? ⟨p, 0, none⟩ = some (.slice va l.length vc) :=
          (Keep.ofBelow (((Below.refl W.heap.size W).drew).alloc (Nat.le_refl _) (.cells #[.int .u32 ten, .string text, .string body, .string reply, .int .u64 seq] 67)) (fun _ => False)).cell hp0 (fun h => h)
        have hp3 : (W.alloc (.cells #[.int .u32 ten, .string text, .string body, .string reply, .int .u64 seq] 67)).drew.cell? ⟨p, 0, none⟩ = some (.slice va l.length vc) := hp2
        have hap' : (Builtin.append_ #[54, 54] 54 #[.slice va l.length vc, .slice (some ⟨W.heap.size, 0, none⟩) 1 1]).run Try.prog (W.alloc (.cells #[.int .u32 ten, .string text, .string body, .string reply, .int .u64 seq] 67)).drew = .ok (.slice (some ⟨g2, 0, none⟩) (l.length + 1) cap2) w2 := hap
        have K1 := Lib.hid k1
        have K2 := Lib.hid k2
        have K3 := Lib.hid k3
        have HO2 := Lib.hid ho2
        have HG2 := Lib.hid hg2
        have HB2 := Lib.hid hb2
        have HAT2 := Lib.hid hat2
        have HX0 := Lib.hid hX
        clear k1 hown ho2 hg2 hat2 k2 hb2 k3 hq2 hi hz0 hz1 hz2 hnq hX hq0
        have HWS := Lib.hid hWs
        rw [← hW]
        clear hW hWs
        go_wp2_with fail
        refine wp_region_held_drew (S := (fun w' => w'.cell? ⟨w.heap.size, 0, none⟩ = some (.int .u32 ten) ∧ w'.cell? ⟨w.heap.size, 1, none⟩ = some (.string text) ∧ w'.cell? ⟨w.heap.size, 2, none⟩ = some (.string body) ∧ w'.cell? ⟨w.heap.size, 3, none⟩ = some (.string reply) ∧ w'.cell? ⟨w.heap.size, 4, none⟩ = some (.int .u64 seq))) (by kernel_rfl) ?_ (fun hHeld0 => ?_)
        · (try dsimp only)
          first | exact HQ2.out _ ((Keep.refl _ _).drew) | exact HQ2.out _ K1.out | exact HQ2.out _ K2.out | exact HQ2.out _ K3.out
        refine takeN (v := ?_) 0 rfl (by kernel_rfl) (by kernel_rfl) (by kernel_rfl) (fun _ _ _ h => h) (by rfl) ?_ hHeld0 ?_
        rotate_left
        · intro w hSw; (try dsimp only at hSw); go_simp; with_reducible rfl
        try simp only [Act.put, List.setIfInBounds_toArray, List.set_cons_zero, List.set_cons_succ]
        refine takeN (v := ?_) 1 rfl (by kernel_rfl) (by kernel_rfl) (by kernel_rfl) (fun _ _ _ h => h) (by rfl) ?_ hHeld0 ?_
        rotate_left
        · intro w hSw; (try dsimp only at hSw); go_simp; with_reducible rfl
        try simp only [Act.put, List.setIfInBounds_toArray, List.set_cons_zero, List.set_cons_succ]
        refine takeN (v := ?_) 2 rfl (by kernel_rfl) (by kernel_rfl) (by kernel_rfl) (fun _ _ _ h => h) (by rfl) ?_ hHeld0 ?_
        rotate_left
        · intro w hSw; (try dsimp only at hSw); go_simp; with_reducible rfl
        try simp only [Act.put, List.setIfInBounds_toArray, List.set_cons_zero, List.set_cons_succ]
        refine takeN (v := ?_) 3 rfl (by kernel_rfl) (by kernel_rfl) (by kernel_rfl) (fun _ _ _ h => h) (by rfl) ?_ hHeld0 ?_
        rotate_left
        · intro w hSw; (try dsimp only at hSw); go_simp; with_reducible rfl
        try simp only [Act.put, List.setIfInBounds_toArray, List.set_cons_zero, List.set_cons_succ]
        refine takeN (v := ?_) 5 rfl (by kernel_rfl) (by kernel_rfl) (by kernel_rfl) (fun _ _ _ h => h) (by rfl) ?_ hHeld0 ?_
        rotate_left
        · intro w hSw; (try dsimp only at hSw); go_simp; with_reducible rfl
        try simp only [Act.put, List.setIfInBounds_toArray, List.set_cons_zero, List.set_cons_succ]
        refine wpAnyH_ready (rs := [4, 6]) (by kernel_rfl) (by simp) ?_
        refine readyN rfl (fun K hK => ?_) ?_
        · -- operation 4
          go_simp
          refine hK.out _ _ ?_ (fun hHeld1 => ?_)
          · (try dsimp only)
            first | exact HQ2.out _ ((Keep.refl _ _).drew) | exact HQ2.out _ K1.out | exact HQ2.out _ K2.out | exact HQ2.out _ K3.out
          clear hK K hHeld0
          try simp only [Act.put, List.setIfInBounds_toArray, List.set_cons_zero, List.set_cons_succ]
          refine wpAnyH_ready (rs := [6]) (by kernel_rfl) (by simp) ?_
          refine readyN rfl (fun K hK => ?_) ?_
          · -- operation 6
            go_simp
            refine hK.out _ _ ?_ (fun hHeld2 => ?_)
            · (try dsimp only)
              first | exact HQ2.out _ ((Keep.refl _ _).drew) | exact HQ2.out _ K1.out | exact HQ2.out _ K2.out | exact HQ2.out _ K3.out
            clear hK K hHeld1
            try simp only [Act.put, List.setIfInBounds_toArray, List.set_cons_zero, List.set_cons_succ]
            refine wpAnyH_ready (rs := [7]) (by kernel_rfl) (by simp) ?_
            refine readyN rfl (fun K hK => ?_) ?_
            · -- operation 7
              first
                | (refine wp_append_run _ _ 54 (v := .slice va l.length vc) (y := .slice (some ⟨W.heap.size, 0, none⟩) 1 1) (v' := .slice (some ⟨g2, 0, none⟩) (l.length + 1) cap2) (w' := w2) rfl rfl rfl (by first | with_reducible exact hap' | with_reducible exact hap | exact hap') ?_)
              refine hK.out _ _ ?_ (fun hHeld3 => ?_)
              · (try dsimp only)
                first | exact HQ2.out _ ((Keep.refl _ _).drew) | exact HQ2.out _ K1.out | exact HQ2.out _ K2.out | exact HQ2.out _ K3.out
              clear hK K hHeld2
              try simp only [Act.put, List.setIfInBounds_toArray, List.set_cons_zero, List.set_cons_succ]
              refine takeN (v := ?_) 8 rfl (by kernel_rfl) (by kernel_rfl) (by kernel_rfl) (fun _ _ _ h => h) (by rfl) ?_ hHeld3 ?_
              rotate_left
              · intro w hSw; (try dsimp only at hSw); go_simp; with_reducible rfl
              try simp only [Act.put, List.setIfInBounds_toArray, List.set_cons_zero, List.set_cons_succ]
              refine takeN (v := ?_) 9 rfl (by kernel_rfl) (by kernel_rfl) (by kernel_rfl) (fun _ _ _ h => h) (by rfl) ?_ hHeld3 ?_
              rotate_left
              · intro w hSw; (try dsimp only at hSw); go_simp; with_reducible rfl
              try simp only [Act.put, List.setIfInBounds_toArray, List.set_cons_zero, List.set_cons_succ]
              refine wpAnyH_ready (rs := [10]) (by kernel_rfl) (by simp) ?_
              refine readyN rfl (fun K hK => ?_) ?_
              · -- operation 10
                go_simp
                refine hK.out _ _ ?_ (fun hHeld4 => ?_)
                · (try dsimp only)
                  first | exact HQ2.out _ ((Keep.refl _ _).drew) | exact HQ2.out _ K1.out | exact HQ2.out _ K2.out | exact HQ2.out _ K3.out
                clear hK K hHeld3
                try simp only [Act.put, List.setIfInBounds_toArray, List.set_cons_zero, List.set_cons_succ]
                refine wpAnyH_done (by kernel_rfl) ?_ _
                go_wp2_with fail
                go_ret
                have hgp : g2 ≠ p := by
                  rintro rfl
                  rcases HAT2.out with e | e
                  · exact HX0.out.ne e.symm
                  · have := HWS.out
                    simp [Value.ownBlock] at e
                    omega
                refine ⟨rfl, _, ⟨blk_setCell HB2.out 0 _, ?_, HX0.out.low, fun e => hgp (by simpa [Value.ownBlock] using e)⟩, HKA.out.trans K3.out (fun i hi => .inl hi), fun i hi => ?_⟩
                · have ho := HO2.out
                  rw [List.flatMap_append, List.length_append, List.length_singleton]
                  refine ⟨ho.1, ?_⟩
                  rcases ho.2 with ⟨he, _⟩ | ⟨g, cap, cur, he, hb, hg, hn, hm, hs, ht⟩
                  · cases he
                  · injection he with he1 he2 he3
                    injection he1 with he1
                    injection he1 with he1
                    subst he1; subst he3
                    exact .inr ⟨_, _, cur, rfl, hb, (Below.heap_setCell _ _ _ _ hgp).trans hg, hn, hm, hs, ht⟩
                · rcases HAT2.out with e | e
                  · exact .inl (e ▸ hi)
                  · rw [e] at hi
                    have := HWS.out
                    simp at hi
                    exact .inr (by omega)
              exact AllReadyH.nil
            exact AllReadyH.nil
          exact AllReadyH.nil
        refine readyN rfl (fun K hK => ?_) ?_
        · -- operation 6
          go_simp
          refine hK.out _ _ ?_ (fun hHeld1 => ?_)
          · (try dsimp only)
            first | exact HQ2.out _ ((Keep.refl _ _).drew) | exact HQ2.out _ K1.out | exact HQ2.out _ K2.out | exact HQ2.out _ K3.out
          clear hK K hHeld0
          try simp only [Act.put, List.setIfInBounds_toArray, List.set_cons_zero, List.set_cons_succ]
          refine wpAnyH_ready (rs := [4]) (by kernel_rfl) (by simp) ?_
          refine readyN rfl (fun K hK => ?_) ?_
          · -- operation 4
            go_simp
            refine hK.out _ _ ?_ (fun hHeld2 => ?_)
            · (try dsimp only)
              first | exact HQ2.out _ ((Keep.refl _ _).drew) | exact HQ2.out _ K1.out | exact HQ2.out _ K2.out | exact HQ2.out _ K3.out
            clear hK K hHeld1
            try simp only [Act.put, List.setIfInBounds_toArray, List.set_cons_zero, List.set_cons_succ]
            refine wpAnyH_ready (rs := [7]) (by kernel_rfl) (by simp) ?_
            refine readyN rfl (fun K hK => ?_) ?_
            · -- operation 7
              first
                | (refine wp_append_run _ _ 54 (v := .slice va l.length vc) (y := .slice (some ⟨W.heap.size, 0, none⟩) 1 1) (v' := .slice (some ⟨g2, 0, none⟩) (l.length + 1) cap2) (w' := w2) rfl rfl rfl (by first | with_reducible exact hap' | with_reducible exact hap | exact hap') ?_)
              refine hK.out _ _ ?_ (fun hHeld3 => ?_)
              · (try dsimp only)
                first | exact HQ2.out _ ((Keep.refl _ _).drew) | exact HQ2.out _ K1.out | exact HQ2.out _ K2.out | exact HQ2.out _ K3.out
              clear hK K hHeld2
              try simp only [Act.put, List.setIfInBounds_toArray, List.set_cons_zero, List.set_cons_succ]
              refine takeN (v := ?_) 8 rfl (by kernel_rfl) (by kernel_rfl) (by kernel_rfl) (fun _ _ _ h => h) (by rfl) ?_ hHeld3 ?_
              rotate_left
              · intro w hSw; (try dsimp only at hSw); go_simp; with_reducible rfl
              try simp only [Act.put, List.setIfInBounds_toArray, List.set_cons_zero, List.set_cons_succ]
              refine takeN (v := ?_) 9 rfl (by kernel_rfl) (by kernel_rfl) (by kernel_rfl) (fun _ _ _ h => h) (by rfl) ?_ hHeld3 ?_
              rotate_left
              · intro w hSw; (try dsimp only at hSw); go_simp; with_reducible rfl
              try simp only [Act.put, List.setIfInBounds_toArray, List.set_cons_zero, List.set_cons_succ]
              refine wpAnyH_ready (rs := [10]) (by kernel_rfl) (by simp) ?_
              refine readyN rfl (fun K hK => ?_) ?_
              · -- operation 10
                go_simp
                refine hK.out _ _ ?_ (fun hHeld4 => ?_)
                · (try dsimp only)
                  first | exact HQ2.out _ ((Keep.refl _ _).drew) | exact HQ2.out _ K1.out | exact HQ2.out _ K2.out | exact HQ2.out _ K3.out
                clear hK K hHeld3
                try simp only [Act.put, List.setIfInBounds_toArray, List.set_cons_zero, List.set_cons_succ]
                refine wpAnyH_done (by kernel_rfl) ?_ _
                go_wp2_with fail
                go_ret
                have hgp : g2 ≠ p := by
                  rintro rfl
                  rcases HAT2.out with e | e
                  · exact HX0.out.ne e.symm
                  · have := HWS.out
                    simp [Value.ownBlock] at e
                    omega
                refine ⟨rfl, _, ⟨blk_setCell HB2.out 0 _, ?_, HX0.out.low, fun e => hgp (by simpa [Value.ownBlock] using e)⟩, HKA.out.trans K3.out (fun i hi => .inl hi), fun i hi => ?_⟩
                · have ho := HO2.out
                  rw [List.flatMap_append, List.length_append, List.length_singleton]
                  refine ⟨ho.1, ?_⟩
                  rcases ho.2 with ⟨he, _⟩ | ⟨g, cap, cur, he, hb, hg, hn, hm, hs, ht⟩
                  · cases he
                  · injection he with he1 he2 he3
                    injection he1 with he1
                    injection he1 with he1
                    subst he1; subst he3
                    exact .inr ⟨_, _, cur, rfl, hb, (Below.heap_setCell _ _ _ _ hgp).trans hg, hn, hm, hs, ht⟩
                · rcases HAT2.out with e | e
                  · exact .inl (e ▸ hi)
                  · rw [e] at hi
                    have := HWS.out
                    simp at hi
                    exact .inr (by omega)
              exact AllReadyH.nil
            exact AllReadyH.nil
          exact AllReadyH.nil
        exact AllReadyH.nil
end
end Go.Proofs.Ytiadoimdohnebaa
