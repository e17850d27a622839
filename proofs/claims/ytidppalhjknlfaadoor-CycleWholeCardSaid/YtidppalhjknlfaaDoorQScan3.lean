/- kv.Scan, the pairs' blocks with their types. -/
import Derived.Test.YtidppalhjknlfaaDoorQScan2
namespace Go.Proofs.YtidppalhjknlfaaDoor
open Go.RowKit
set_option maxRecDepth 100000
set_option linter.unusedVariables false
set_option linter.unusedSimpArgs false
set_option maxHeartbeats 400000
/-- pairs that are read, in blocks of their types -/
def PT (w : World) (v : Value) (l : AL) : Prop :=
  ∃ a cap, v = .slice a l.length cap ∧ l.length ≤ cap ∧ cap ≤ maxLen ∧ (l = [] ∨ ∃ g, a = some ⟨g, 0, none⟩ ∧ (∃ cur z, w.heap[g]? = some (.cells cur 96 z)) ∧ ∀ i p, l[i]? = some p → ∃ kv vv, w.cell? ⟨g, 2 * i, none⟩ = some kv ∧ w.cell? ⟨g, 2 * i + 1, none⟩ = some vv ∧ BL 5 w kv p.1 ∧ BL 5 w vv p.2)
theorem PT.pr {w : World} {v : Value} {l : AL} (h : PT w v l) : PR w v l := by
  obtain ⟨a, cap, rfl, h1, h2, h3⟩ := h
  refine ⟨a, cap, rfl, h1, h2, ?_⟩
  rcases h3 with h3 | ⟨g, rfl, _, h3⟩
  · exact .inl h3
  · refine .inr ⟨g, rfl, fun i p hp => ?_⟩
    obtain ⟨kv, vv, c1, c2, b1, b2⟩ := h3 i p hp
    exact ⟨kv, vv, c1, c2, b1.bs, b2.bs⟩
theorem PT.keep {w w' : World} {v : Value} {l : AL} {F : Nat → Prop} (h : PT w v l) (hk : Keep F w w') (hF : ∀ b cs e z, w.heap[b]? = some (.cells cs e z) → e = 96 ∨ e = 5 → ¬ F b) : PT w' v l := by
  obtain ⟨a, cap, rfl, h1, h2, h3⟩ := h
  refine ⟨a, cap, rfl, h1, h2, ?_⟩
  rcases h3 with h3 | ⟨g, rfl, ⟨cur, z, hg⟩, h3⟩
  · exact .inl h3
  · have hn := hF g _ _ _ hg (.inl rfl)
    refine .inr ⟨g, rfl, ⟨cur, z, hk.blk hg hn⟩, fun i p hp => ?_⟩
    obtain ⟨kv, vv, c1, c2, b1, b2⟩ := h3 i p hp
    exact ⟨kv, vv, hk.cell c1 hn, hk.cell c2 hn, b1.keep hk (fun b cs z hb => hF b cs _ z hb (.inr rfl)), b2.keep hk (fun b cs z hb => hF b cs _ z hb (.inr rfl))⟩
theorem PT.below {w w' : World} {v : Value} {l : AL} (h : PT w v l) (hb : Below w.heap.size w w') : PT w' v l := h.keep (Keep.ofBelow hb (fun _ => False)) (fun _ _ _ _ _ _ h => h)
theorem PS.pt {w : World} {base : Nat} {v : Value} {l : AL} (h : PS w base v l) : PT w v l := by
  obtain ⟨xs, h1, h2⟩ := h
  rcases h1.2 with ⟨rfl, h0⟩ | ⟨g, cap, cur, rfl, hb, hg, hn, hm, hr⟩
  · refine ⟨none, 0, by rw [h0], by omega, by decide, .inl (List.eq_nil_of_length_eq_zero h0)⟩
  · refine ⟨_, cap, rfl, hn, hm, .inr ⟨g, rfl, ⟨_, _, hg⟩, fun i p hp => ?_⟩⟩
    have h1' : w.ownsRow base 96 2 (.slice (some ⟨g, 0, none⟩) l.length cap) l.length xs := h1
    obtain ⟨kv, vv, a, b, c, d⟩ := h2 i p hp
    have hz : ∀ j, (⟨g, 0, none⟩ : Addr).add j = ⟨g, j, none⟩ := fun j => by by_cases h : j = 0 <;> simp [Addr.add, h]
    have e1 := h1'.cells rfl _ _ a
    have e2 := h1'.cells rfl _ _ b
    rw [hz] at e1 e2
    exact ⟨kv, vv, e1, e2, c, d⟩
theorem PT.take {w : World} {a : Option Addr} {len cap : Nat} {l : AL} (h : PT w (.slice a len cap) l) (n : Nat) (hn : n ≤ l.length) : PT w (.slice a n n) (l.take n) := by
  obtain ⟨a', cap', he, h1, h2, h3⟩ := h
  injection he with ha _ hc
  subst ha; subst hc
  have hl : (l.take n).length = n := by rw [List.length_take]; omega
  refine ⟨a, n, by rw [hl], by omega, by omega, ?_⟩
  rcases h3 with h3 | ⟨g, rfl, hg, h3⟩
  · left; rw [h3]; simp
  · refine .inr ⟨g, rfl, hg, fun i p hp => h3 i p ?_⟩
    rw [List.getElem?_take] at hp
    split at hp
    · exact hp
    · cases hp
theorem scan_pt (p : Nat) (room : Int) (b1 b2 : Nat) (now was : AL) (sv : Value) (s : ByteArray) (w : World) (hM : MemIs w p room b1 b2 now was) (hS : BS w sv s) (hSm : Small now) (hN : AL.ND now) :
    Calls Tryd.prog 45 #[sV p, sv] w fun e w' => ∃ v, e = .returned (.tuple #[v, .int .i64 0]) ∧ PT w' v (AL.scan s now) ∧ Below w.heap.size w w' := by
  obtain ⟨a0, c0, rfl⟩ := hS.len
  have hcon := Lib.hid fun o => range_any p room b1 b2 now was (.slice a0 s.size c0) (.slice none 0 0) s ByteArray.empty _ (hM.alloc o) (hS.alloc o) (BS.nil _) hSm hN
  have HS := Lib.hid hS
  have hL := hSm.1
  have HQ := Lib.hid (scan_eq hN s)
  have HRL := Lib.hid (range_len s ByteArray.empty now)
  unfold sV
  unfold pV at *
  clear hM hS hSm hN
  go_enter Tryd.func45, Tryd.ntmps45
  go_wp2_with fail
  refine (hcon.out _).mono ?_
  rintro e w1 ⟨v, rfl, hps, hb⟩
  have HB1 := Lib.hid (((Below.refl w.heap.size w).alloc (Nat.le_refl _) (.cells #[.slice a0 s.size c0] 68)).trans (hb.mono (by simp)))
  have hq : w1.cell? ⟨w.heap.size, 0, none⟩ = some (.slice a0 s.size c0) := by
    rw [hb.cell (p := ⟨w.heap.size, 0, none⟩) (by simp), blk_cell (blk_new _ _)]; rfl
  obtain ⟨l, hl⟩ : ∃ l, l = AL.range s ByteArray.empty now := ⟨_, rfl⟩
  rw [← hl] at hps HQ HRL
  have HP := Lib.hid hps.pt
  have hll : l.length ≤ 1000000 := Nat.le_trans HRL.out hL
  have hcon2 := Lib.hid (indexFunc_any w.heap.size (.slice a0 s.size c0) v s l w1 hq (HS.out.below (HB1.out.mono (Nat.le_refl _))) HP.out.pr hll)
  clear hps hb hcon hq hl
  go_wp2_with fail
  refine (hcon2.out).mono ?_
  rintro e w2 ⟨rfl, hb⟩
  have HB2 := Lib.hid (HB1.out.trans (hb.mono HB1.out.size))
  have HP2 := Lib.hid (HP.out.below hb)
  clear hb hcon2 HP
  obtain ⟨a, cap, rfl, hc1, hc2, _⟩ := HP2.out
  have htl : (l.takeWhile fun p => pre s p.1).length ≤ l.length := by rw [takeWhile_len]; simp; omega
  unfold idxOf
  unfold maxLen at hc2
  have htk : l.take (l.takeWhile fun p => pre s p.1).length = AL.scan s now := by rw [← takeWhile_len, HQ.out]
  generalize (l.takeWhile fun p => pre s p.1).length = n at htl htk ⊢
  have HT := Lib.hid (HP2.out.take n htl)
  rw [htk] at HT
  clear htk
  clear HQ HP2 HRL
  by_cases hlt : n < l.length
  · rw [if_pos hlt]
    have i1 : decide ((n : Int) < 0) = false := decide_eq_false (by omega)
    go_wp2
    go_ret2
    exact ⟨_, rfl, HT.out, HB2.out⟩
  · rw [if_neg hlt]
    obtain rfl : n = l.length := by omega
    go_wp2
    go_ret2
    exact ⟨_, rfl, HT.out, HB2.out⟩
end Go.Proofs.YtidppalhjknlfaaDoor
