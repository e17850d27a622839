/- The walks of idem.Find, Keep, Seq over a store in memory. -/
import Derived.Test.YtiadoimdohnebaaLook
namespace Go.Proofs.Ytiadoimdohnebaa
open Go.RowKit
set_option maxRecDepth 100000
set_option linter.unusedVariables false
set_option linter.unusedSimpArgs false
set_option maxHeartbeats 4000000
theorem equalb_any (av bv : Value) (a b : ByteArray) (w : World) (hA : BS w av a) (hB : BS w bv b) :
    Calls Try.prog 52 #[av, bv] w fun e w' => e = .returned (.bool (decide (a = b))) ∧ w = w' := by
  obtain ⟨x, c, rfl⟩ := hA.len
  obtain ⟨x', c', rfl⟩ := hB.len
  obtain ⟨_, h1, h2⟩ := hA.bytesIn
  obtain ⟨_, h3, h4⟩ := hB.bytesIn
  have := Try.bytes_Equal_all x x' a.size c b.size c' _ _ w (by simp [data_len]) (by simp [data_len]) h2 h4
  rw [bytesOf_data, bytesOf_data] at this
  refine this.mono fun e w' ⟨he, hw⟩ => ⟨?_, hw.symm⟩
  rw [he, ← toList_data, ← toList_data, seq_iff]
/-! ### the keys -/
theorem kb_inj {t t' : Int} {x x' : ByteArray} (h0 : 0 ≤ t) (h1 : t ≤ 4294967295) (h0' : 0 ≤ t') (h1' : t' ≤ 4294967295) (h : kb t x = kb t' x') : t = t' ∧ x = x' := by
  unfold kb at h
  have hk : keyS 107 [t] = keyS 107 [t'] := by
    have := congrArg (fun s : ByteArray => s.extract 0 9) h
    rwa [ext_front _ _ 9 (by rw [keyS_size]; rfl), ext_front _ _ 9 (by rw [keyS_size]; rfl)] at this
  have hx : x = x' := by
    rw [hk] at h
    have := congrArg (fun s : ByteArray => s.extract 9 s.size) h
    rwa [ext_back _ _ 9 (by rw [keyS_size]; rfl), ext_back _ _ 9 (by rw [keyS_size]; rfl)] at this
  refine ⟨?_, hx⟩
  rw [show keyS 107 [t] = bOne 107 ++ be8 t from keyS_snoc 107 [] t, show keyS 107 [t'] = bOne 107 ++ be8 t' from keyS_snoc 107 [] t'] at hk
  have := congrArg (fun s : ByteArray => s.extract 1 s.size) hk
  rw [ext_back _ _ 1 rfl, ext_back _ _ 1 rfl] at this
  have e1 := valB_be8 t h0 (by omega)
  have e2 := valB_be8 t' h0' (by omega)
  rw [this] at e1
  omega
theorem get_put_ne {k k' v : ByteArray} (h : k ≠ k') : ∀ l : AL, AL.get k (AL.put k' v l) = AL.get k l
  | [] => by simp [AL.put, AL.get, h]
  | p :: l => by
    by_cases hp : k' = p.1
    · simp only [AL.put, if_pos hp, AL.get, if_neg h]
      rw [if_neg (by rw [← hp]; exact h)]
    · simp only [AL.put, if_neg hp, AL.get, get_put_ne h l]
theorem get_put_eq {k v : ByteArray} : ∀ l : AL, AL.get k (AL.put k v l) = some v
  | [] => by simp [AL.put, AL.get]
  | p :: l => by
    by_cases hp : k = p.1
    · simp [AL.put, if_pos hp, AL.get]
    · simp only [AL.put, if_neg hp, AL.get, if_neg hp, get_put_eq l]
abbrev IxF := Int → ByteArray → Option Rec
/-- the store holds the records F -/
structure Idx (now : AL) (F : IxF) : Prop where
  get : ∀ t x, 0 ≤ t → t ≤ 4294967295 → chk x = true → AL.get (kb t x) now = (F t x).map Rec.enc
  ok : ∀ t x r, F t x = some r → r.Ok
def recD : Option Rec → Rec
  | none => ⟨ByteArray.empty, ByteArray.empty, 0⟩
  | some r => r
theorem Idx.told {now : AL} {F : IxF} (h : Idx now F) {t : Int} {x : ByteArray} (h0 : 0 ≤ t) (h1 : t ≤ 4294967295) (hx : chk x = true) : Told (AL.get (kb t x) now) (recD (F t x)) (F t x).isSome := by
  rw [h.get t x h0 h1 hx]
  cases hf : F t x with
  | none => exact ⟨fun _ => ⟨rfl, rfl⟩, fun s hs => by cases hs⟩
  | some r => exact ⟨fun hn => (by cases hn), fun s hs => by cases hs; exact ⟨rfl, h.ok t x r hf, rfl⟩⟩
/-! ### Find -/
def fr (ok : Bool) (r : Rec) (body : ByteArray) : ByteArray × Bool × Int := if ok = false then (ByteArray.empty, false, 0) else if r.body = body then (r.reply, true, 0) else (ByteArray.empty, false, 41)
theorem findc (q1 q2 : Nat) (bv rv bodyV : Value) (r : Rec) (body : ByteArray) (ok : Bool) (w : World) (hb : BS w bv r.body) (hr : BS w rv r.reply) (hc1 : w.cell? ⟨q1, 0, none⟩ = some bodyV) (hB : BS w bodyV body)
    (hc2 : w.heap[q2]? = some (.cells #[.bool false] 4 (0, 0))) :
    Calls Try.prog 51 #[.agg #[bv, rv, .int .u64 r.seq], .bool ok, .pointer (some ⟨q1, 0, none⟩), .pointer (some ⟨q2, 0, none⟩)] w fun e w' =>
      ∃ u c, e = .returned (.tuple #[u, .int .i64 c]) ∧ BS w' u (fr ok r body).1 ∧ c = (fr ok r body).2.2 ∧ w'.cell? ⟨q2, 0, none⟩ = some (.bool (fr ok r body).2.1) ∧ Keep (fun i => i = q2) w w' := by
  obtain ⟨a1, c1, rfl⟩ := hb.len
  obtain ⟨a2, c2, rfl⟩ := hr.len
  obtain ⟨sq, hsq⟩ : ∃ sq, sq = r.seq := ⟨_, rfl⟩
  rw [← hsq]
  clear hsq
  have hz := blk_lt hc2
  have HB := Lib.hid hb
  have HR := Lib.hid hr
  have HC2 := Lib.hid hc2
  have HBB := Lib.hid hB
  cases ok with
  | false =>
    have E := Lib.hid (show fr false r body = (ByteArray.empty, false, 0) from rfl)
    clear hb hr hB hc2
    rw [E.out]
    go_enter Try.func51, Try.ntmps51
    go_wp2
    go_ret2
    refine ⟨_, _, rfl, BS.nil _, rfl, ?_, (Keep.refl _ _).alloc _⟩
    rw [blk_cell (blk_alloc HC2.out _)]; rfl
  | true =>
    have hf2 : (w.alloc (.cells #[.slice a1 r.body.size c1, .slice a2 r.reply.size c2, .int .u64 sq] 102)).frozen? ⟨q2, 0, none⟩ = false := blk_frozen (blk_alloc hc2 _) 0
    have hx2 : (w.alloc (.cells #[.slice a1 r.body.size c1, .slice a2 r.reply.size c2, .int .u64 sq] 102)).cell? ⟨q2, 0, none⟩ = some (.bool false) := by rw [blk_cell (blk_alloc hc2 _)]; rfl
    have hx1 : (w.alloc (.cells #[.slice a1 r.body.size c1, .slice a2 r.reply.size c2, .int .u64 sq] 102)).cell? ⟨q1, 0, none⟩ = some bodyV := ((Keep.refl (fun _ => False) w).alloc _).cell hc1 (fun h => h)
    have EQ := Lib.hid (equalb_any _ _ r.body body _ (hb.alloc (.cells #[.slice a1 r.body.size c1, .slice a2 r.reply.size c2, .int .u64 sq] 102)) (hB.alloc _))
    have hkq : Keep (fun i => i = q2) w ((w.setCell ⟨q2, 0, none⟩ (.bool true)).alloc (.cells #[.slice a1 r.body.size c1, .slice a2 r.reply.size c2, .int .u64 sq] 102)) :=
      (Keep.setCell (F := fun i => i = q2) (Keep.refl _ _) (p := ⟨q2, 0, none⟩) (.inl rfl) _).alloc _
    have HK := Lib.hid hkq
    have HN := Lib.hid (show ∀ b o x, w.cell? ⟨b, o, none⟩ = some (.int .u8 x) → ¬ b = q2 from fun b o x hc e => by
      subst e
      rw [blk_cell hc2] at hc
      match o, hc with
      | 0, hc => simp at hc
      | o + 1, hc => simp at hc)
    clear hb hr hB hkq
    by_cases he : r.body = body
    · have E := Lib.hid (show fr true r body = (r.reply, true, 0) by unfold fr; rw [if_neg (by decide), if_pos he])
      rw [decide_eq_true he] at EQ
      rw [E.out]
      clear he hc2
      go_enter Try.func51, Try.ntmps51
      go_wp2_with fail
      refine EQ.out.mono ?_
      rintro e w1 ⟨rfl, rfl⟩
      go_wp2
      go_ret2
      refine ⟨_, _, rfl, HR.out.keep HK.out HN.out, rfl, ?_, HK.out⟩
      rw [blk_cell (blk_alloc (blk_setCell HC2.out 0 _) _)]; rfl
    · have E := Lib.hid (show fr true r body = (ByteArray.empty, false, 41) by unfold fr; rw [if_neg (by decide), if_neg he])
      rw [decide_eq_false he] at EQ
      rw [E.out]
      clear he hc2
      go_enter Try.func51, Try.ntmps51
      go_wp2_with fail
      refine EQ.out.mono ?_
      rintro e w1 ⟨rfl, rfl⟩
      go_wp2
      go_ret2
      refine ⟨_, _, rfl, BS.nil _, rfl, ?_, (Keep.refl _ _).alloc _⟩
      rw [blk_cell (blk_alloc HC2.out _)]; rfl
def findR (F : IxF) (t : Int) (x body : ByteArray) : ByteArray × Bool × Int := if chk x = false then (ByteArray.empty, false, 1) else fr (F t x).isSome (recD (F t x)) body
theorem find_any (p : Nat) (room : Int) (b1 b2 : Nat) (now was : AL) (F : IxF) (t : Int) (h0 : 0 ≤ t) (h1 : t ≤ 4294967295) (x body : ByteArray) (bodyV : Value) (w : World) (hM : MemIs w p room b1 b2 now was) (hI : Idx now F) (hx : x.size ≤ maxLen) (hB : BS w bodyV body) :
    Calls Try.prog 32 #[sV p, .int .u32 t, .string x, bodyV] w fun e w' => ∃ u, e = .returned (.tuple #[u, .bool (findR F t x body).2.1, .int .i64 (findR F t x body).2.2]) ∧ BS w' u (findR F t x body).1 ∧ Below w.heap.size w w' := by
  obtain ⟨ab, cb, rfl⟩ := hB.len
  have hb0 : Below w.heap.size w ((w.alloc (.cells #[.slice ab body.size cb] 23)).alloc (.cells #[.bool false] 4)) := ((Below.refl _ _).alloc (Nat.le_refl _) _).alloc (by simp) _
  have hc1 : ((w.alloc (.cells #[.slice ab body.size cb] 23)).alloc (.cells #[.bool false] 4)).cell? ⟨w.heap.size, 0, none⟩ = some (.slice ab body.size cb) := by rw [blk_cell (blk_alloc (blk_new w _) _)]; rfl
  have hc2 : ((w.alloc (.cells #[.slice ab body.size cb] 23)).alloc (.cells #[.bool false] 4)).heap[w.heap.size + 1]? = some (.cells #[.bool false] 4 (0, 0)) := blk_newAt (by simp) _
  cases hch : chk x with
  | false =>
    have E := Lib.hid (show findR F t x body = (ByteArray.empty, false, 1) by unfold findR; rw [if_pos hch])
    rw [E.out]
    have HL := Lib.hid (look_f_bad p t x (.func (Fn.func 51) #[] #[.pointer (some ⟨w.heap.size, 0, none⟩), .pointer (some ⟨w.heap.size + 1, 0, none⟩)]) ((w.alloc (.cells #[.slice ab body.size cb] 23)).alloc (.cells #[.bool false] 4)) hch hx)
    have hcd : ((w.alloc (.cells #[.slice ab body.size cb] 23)).alloc (.cells #[.bool false] 4)).drew.cell? ⟨w.heap.size + 1, 0, none⟩ = some (.bool false) := by
      have := blk_cell hc2 0
      exact this.trans rfl
    have HB0 := Lib.hid hb0
    unfold sV pV at *
    clear hM hI hB hch hc1 hc2 hb0
    go_enter Try.func32, Try.ntmps32
    go_wp2_with fail
    refine HL.out.mono ?_
    rintro e w1 ⟨rfl, rfl⟩
    go_wp2_with fail
    go_quiet (fail)
    go_wp2
    go_ret3
    exact ⟨_, rfl, BS.nil _, below_drewN HB0.out _⟩
  | true =>
    have E := Lib.hid (show findR F t x body = fr (F t x).isSome (recD (F t x)) body by unfold findR; rw [hch]; rfl)
    rw [E.out]
    have HL := Lib.hid (look_f p room b1 b2 now was t h0 h1 x hch w.heap.size (w.heap.size + 1) ((w.alloc (.cells #[.slice ab body.size cb] 23)).alloc (.cells #[.bool false] 4)) (hM.below hb0) (recD (F t x)) (F t x).isSome (hI.told h0 h1 hch)
      (fun u c W' => BS W' u (fr (F t x).isSome (recD (F t x)) body).1 ∧ c = (fr (F t x).isSome (recD (F t x)) body).2.2 ∧ W'.cell? ⟨w.heap.size + 1, 0, none⟩ = some (.bool (fr (F t x).isSome (recD (F t x)) body).2.1) ∧ Below w.heap.size w W')
      (fun W bv rv hbv hrv hW => by
        have hk0 := (Keep.ofBelow hW (fun _ => False))
        refine (findc w.heap.size (w.heap.size + 1) bv rv (.slice ab body.size cb) (recD (F t x)) body (F t x).isSome W hbv hrv (hk0.cell hc1 (fun h => h)) ((hB.below hb0).below hW) (hk0.blk hc2 (fun h => h))).mono ?_
        rintro e W' ⟨u, c, rfl, g1, g2, g3, g4⟩
        exact ⟨u, c, rfl, g1, g2, g3, ((hb0.trans (hW.mono hb0.size)).trans (g4.below (B := w.heap.size) (Nat.le_trans hb0.size hW.size) (fun i hi => by subst hi; omega)))⟩))
    obtain ⟨R, hR⟩ : ∃ R, R = fr (F t x).isSome (recD (F t x)) body := ⟨_, rfl⟩
    rw [← hR] at HL ⊢
    unfold sV pV at *
    clear hM hI hB hch hc1 hc2 hb0 hR E
    go_enter Try.func32, Try.ntmps32
    go_wp2_with fail
    refine HL.out.mono ?_
    rintro e w1 ⟨u, c, rfl, g1, rfl, g3, g4⟩
    obtain ⟨au, cu, rfl⟩ := g1.len
    have G1 := Lib.hid g1
    have G4 := Lib.hid g4
    have g3d : ∀ n, (w1.drewN n).cell? ⟨w.heap.size + 1, 0, none⟩ = some (.bool R.2.1) := fun n => g3
    clear g1 g4 g3 HL
    go_wp2_with fail
    go_quiet (fail)
    go_wp2
    go_ret3
    exact ⟨_, rfl, G1.out.drewN _, below_drewN G4.out _⟩
end Go.Proofs.Ytiadoimdohnebaa
