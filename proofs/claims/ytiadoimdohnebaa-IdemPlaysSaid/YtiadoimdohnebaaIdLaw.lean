/- What idem.Keep comes to, in plain words. No walk here. -/
import Derived.Test.YtiadoimdohnebaaIn18
import Derived.Test.YtiadoimdohnebaaActLaw
namespace Go.Proofs.Ytiadoimdohnebaa
open Go.RowKit
set_option linter.unusedVariables false
set_option linter.unusedSimpArgs false
theorem keepE_arg {room : Int} {now : AL} {F : IxF} {t : Int} {x : ByteArray} {r : Rec} (hx : chk x = false) : keepE room now F t x r = 1 := by unfold keepE; rw [if_pos hx]
theorem keepE_twice {room : Int} {now : AL} {F : IxF} {t : Int} {x : ByteArray} {r r0 : Rec} (hx : chk x = true) (hf : F t x = some r0) : keepE room now F t x r = 5 := by
  unfold keepE; rw [if_neg (by rw [hx]; decide), hf]; rfl
theorem keepE_long {room : Int} {now : AL} {F : IxF} {t : Int} {x : ByteArray} {r : Rec} (hx : chk x = true) (hf : F t x = none) (hl : 900 < r.body.size + r.reply.size) : keepE room now F t x r = 2 := by
  unfold keepE keepC; rw [if_neg (by rw [hx]; decide), hf, if_neg (by decide), if_pos hl]
theorem chk_size {x : ByteArray} (h : chk x = true) : 0 < x.size ∧ x.size ≤ 16 := by
  unfold chk at h; simp at h; exact h
theorem keepE_put {room : Int} {now : AL} {F : IxF} {t : Int} {x : ByteArray} {r : Rec} (hI : Idx now F) (h0 : 0 ≤ t) (h1 : t ≤ 4294967295) (hx : chk x = true) (hf : F t x = none) (hl : r.body.size + r.reply.size ≤ 900) :
    keepE room now F t x r = if 0 ≤ room ∧ room ≤ now.length then 3 else 0 := by
  have hg : AL.get (kb t x) now = none := by rw [hI.get t x h0 h1 hx, hf]; rfl
  have hc := chk_size hx
  unfold keepE keepC
  rw [if_neg (by rw [hx]; decide), hf, if_neg (by decide), if_neg (by omega)]
  unfold putE
  rw [if_neg (by rw [kb_size]; omega), if_neg (by rw [kb_size, Rec.enc_size]; omega)]
  by_cases hr : 0 ≤ room ∧ room ≤ now.length
  · rw [if_pos hr, if_pos ⟨hg, hr⟩]
  · rw [if_neg hr, if_neg (fun h => hr h.2)]
theorem keepE_ok {now : AL} {F : IxF} {t : Int} {x : ByteArray} {r : Rec} (hI : Idx now F) (h0 : 0 ≤ t) (h1 : t ≤ 4294967295) (hx : chk x = true) (hf : F t x = none) (hl : r.body.size + r.reply.size ≤ 900) : keepE (-1) now F t x r = 0 := by
  rw [keepE_put hI h0 h1 hx hf hl, if_neg (by omega)]
/-- what Keep answers where there is room -/
theorem keepE_is {now : AL} {F : IxF} {t : Int} {x : ByteArray} {r : Rec} (hI : Idx now F) (h0 : 0 ≤ t) (h1 : t ≤ 4294967295) :
    keepE (-1) now F t x r = if chk x = false then 1 else if (F t x).isSome = true then 5 else if 900 < r.body.size + r.reply.size then 2 else 0 := by
  cases hx : chk x with
  | false => rw [if_pos rfl, keepE_arg hx]
  | true =>
    rw [if_neg (by decide)]
    cases hf : F t x with
    | some r0 => rw [keepE_twice hx hf]; rfl
    | none =>
      rw [if_neg (by decide)]
      by_cases hl : 900 < r.body.size + r.reply.size
      · rw [if_pos hl, keepE_long hx hf hl]
      · rw [if_neg hl, keepE_ok hI h0 h1 hx hf (by omega)]
theorem keepF_same {room : Int} {now : AL} {F : IxF} {t : Int} {x : ByteArray} {r : Rec} (h : keepE room now F t x r = 0) : keepF room now F t x r t x = some r := by
  unfold keepF; rw [if_pos h]; simp
theorem keepF_other {room : Int} {now : AL} {F : IxF} {t t' : Int} {x x' : ByteArray} {r : Rec} (h : ¬ (t' = t ∧ x' = x)) : keepF room now F t x r t' x' = F t' x' := by
  unfold keepF
  split
  · exact if_neg h
  · rfl
/-- what is kept stays -/
theorem keepF_stays {room : Int} {now : AL} {F : IxF} {t t' : Int} {x x' : ByteArray} {r r0 : Rec} (hx : chk x' = true) (h : F t' x' = some r0) : keepF room now F t x r t' x' = some r0 := by
  by_cases hk : t' = t ∧ x' = x
  · obtain ⟨rfl, rfl⟩ := hk
    unfold keepF
    rw [keepE_twice hx h, if_neg (by decide)]
    exact h
  · rw [keepF_other hk]; exact h
theorem keepA_not {room : Int} {now : AL} {F : IxF} {t : Int} {x : ByteArray} {r : Rec} (h : keepE room now F t x r ≠ 0) : keepA room now F t x r = now := by unfold keepA; rw [if_neg h]
theorem keepF_not {room : Int} {now : AL} {F : IxF} {t : Int} {x : ByteArray} {r : Rec} (h : keepE room now F t x r ≠ 0) : keepF room now F t x r = F := by unfold keepF; rw [if_neg h]
theorem keepA_st {m : Nat} {now : AL} (h : St m now) (room : Int) (F : IxF) (t : Int) (x : ByteArray) (r : Rec) : St (m + 1) (keepA room now F t x r) := by
  unfold keepA
  by_cases he : keepE room now F t x r = 0
  · rw [if_pos he]
    have hx : chk x = true := by
      cases hx : chk x with
      | true => rfl
      | false => rw [keepE_arg hx] at he; cases he
    have hc := chk_size hx
    have hl : ¬ 900 < r.body.size + r.reply.size := by
      intro hl
      unfold keepE keepC at he
      rw [if_neg (by rw [hx]; decide)] at he
      split at he
      · cases he
      · cases he
    refine ⟨nd_put h.nd, Nat.le_trans (put_length _ _ _) (by have := h.len; omega), fun p hp => ?_⟩
    rcases (mem_put h.nd).1 hp with rfl | ⟨hp, _⟩
    · show (kb t x).size ≤ 256 ∧ r.enc.size ≤ 1024
      rw [kb_size, Rec.enc_size]; omega
    · exact h.small p hp
  · rw [if_neg he]; exact h.mono (by omega)
theorem bs_kept {w w1 : World} {p b1 b2 : Nat} {r : Int} {now was : AL} {v : Value} {s : ByteArray} (h : MemIs w p r b1 b2 now was) (hb : BS w v s) (hk : Keep (fun i => i = b1) w w1) : BS w1 v s :=
  hb.keep hk (fun b o x hc e => by subst e; rw [h.now.nocell] at hc; cases hc)
theorem keepA_len {room : Int} {now : AL} {F : IxF} {t : Int} {x : ByteArray} {r : Rec} : (keepA room now F t x r).length ≤ now.length + 1 := by
  unfold keepA
  split
  · exact put_length _ _ _
  · omega
end Go.Proofs.Ytiadoimdohnebaa
