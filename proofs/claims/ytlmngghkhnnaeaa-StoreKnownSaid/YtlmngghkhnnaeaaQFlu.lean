/- The walk of a store's flush: what it does; its loop. -/
import Derived.Test.YtlmngghkhnnaeaaQKeysS
import Derived.Test.YtlmngghkhnnaeaaQApb
import Derived.Deep.DeepCutAuto
namespace Go.Proofs.Ytlmngghkhnnaeaa
open Go.RowKit
set_option maxRecDepth 100000
set_option maxHeartbeats 1000000
set_option linter.unusedVariables false
set_option linter.unusedSimpArgs false
/-- a page of the change is written -/
def pgW (S : SS) (D : DS) (k : Int) : DS := swrD (S.onto D) k 2 ((wget k S.st.fresh).getD ByteArray.empty)
def flL (S : SS) : List Int → DS → DS × Bool
  | [], D => (D, true)
  | k :: l, D => if (pgW S D k).dead = true then (pgW S D k, false) else flL S l (pgW S D k)
def flT (S : SS) : SS := { S with stamp := S.stamp + 1 }
def otherH (S : SS) : Int := if S.head = 1 then 0 else 1
def hdBytes (s : St) : ByteArray := be8 s.root ++ bitsB s.taken
def flEnd (S : SS) (D2 : DS) : Int × SS :=
  if (swrD (S.onto D2) (otherH S) 1 (hdBytes S.st)).dead = true then (9, S.onto (swrD (S.onto D2) (otherH S) 1 (hdBytes S.st)))
  else if (burnS (swrD (S.onto D2) (otherH S) 1 (hdBytes S.st))).dead = true then (9, S.onto (flushR (swrD (S.onto D2) (otherH S) 1 (hdBytes S.st))))
  else (0, { S.onto (flushR (swrD (S.onto D2) (otherH S) 1 (hdBytes S.st))) with head := otherH S })
def flMid (S : SS) (r : DS × Bool) : Int × SS :=
  if r.2 = false then (9, S.onto r.1) else if (burnS r.1).dead = true then (9, S.onto (flushR r.1)) else flEnd S (flushR r.1)
def flushF (S : SS) (L : List Int) : Int × SS := flMid (flT S) (flL (flT S) L S.D)
theorem nodup_lt : ∀ (n : Nat) (l : List Nat), l.Nodup → (∀ x ∈ l, x < n) → l.length ≤ n
  | 0, l, _, h => by
    cases l with
    | nil => exact Nat.le_refl _
    | cons x l => exact absurd (h x List.mem_cons_self) (by omega)
  | n + 1, l, hn, h => by
    have h1 := nodup_lt n (l.erase n) (hn.erase n) (fun x hx => by
      have h2 := (hn.mem_erase_iff).1 hx
      have := h x h2.2
      have := h2.1
      omega)
    rw [List.length_erase] at h1
    split at h1 <;> omega
theorem StIs.fresh_len {V : Nat → Prop} {w : World} {m : StM} {s : St} (h : StIs w V m s) : s.fresh.length ≤ 4096 := by
  have h1 : (s.fresh.map fun q => q.1.toNat).Nodup := by
    have := h.nodup
    rw [List.Nodup, List.pairwise_map] at this ⊢
    refine List.Pairwise.imp_of_mem (fun {a b} ha hb hne e => hne ?_) this
    have := (h.keys a ha).1
    have := (h.keys b hb).1
    omega
  have h2 := nodup_lt 4096 _ h1 (fun x hx => by
    obtain ⟨q, hq, rfl⟩ := List.mem_map.1 hx
    have := (h.keys q hq).2.1
    have := h.hi
    omega)
  simpa using h2
theorem SIs.stamp1 {V : Nat → Prop} {w : World} {M : SM} {S : SS} (h : SIs w V M S) (hs : S.stamp + 1 ≤ 18446744073709551615) : SNext w (w.setCell ⟨M.p, 13, none⟩ (.int .u64 (S.stamp + 1))) V V M M (flT S) := by
  have hk : Keep (fun i => i = M.p) w (w.setCell ⟨M.p, 13, none⟩ (.int .u64 (S.stamp + 1))) := (Keep.refl _ w).setEq 13 _
  have hB : ∀ i c z, w.heap[i]? = some (.cells c 5 z) → ¬ i = M.p := fun i c z hc e => h.nbytes i c z hc (.inl e)
  have hst : ∀ (m : StM) (s : St), StIs w V m s → ∀ i, m.blk i → ¬ i = M.p := fun m s hs i hi e => absurd (hs.kind i hi _ _ _ (e ▸ h.blk)) (by decide)
  refine ⟨⟨?_, h.now.keepB hk (hst _ _ h.now) hB, h.was.keepB hk (hst _ _ h.was) hB, row_kept h.mrow hk (fun i hi e => mV_p h (e ▸ hi)), h.mlen, fun i m s g1 g2 => ⟨(h.mks i m s g1 g2).1.keepB hk (hst _ _ (h.mks i m s g1 g2).1) hB, (h.mks i m s g1 g2).2⟩,
    h.disk.keep hk (fun i hi e => (h.apart i (.inl e)).2.2.2 hi) hB, h.nwas, h.ndisk, h.sep, h.sepw, ⟨by have := h.stamp.1; show 0 ≤ S.stamp + 1; omega, hs⟩, h.head⟩, rfl, rfl, hk.mono (fun i hi => .inl hi), fun i hi => .inl hi, fun i hi => .inl hi⟩
  rw [blk_setCell h.blk 13]; simp [sArr, flT]
theorem wget_mem (k : Int) : ∀ (f : Wt), k ∈ f.map (·.1) → ∃ u, wget k f = some u ∧ (k, u) ∈ f
  | [], h => by simp at h
  | q :: f, h => by
    by_cases hk : k = q.1
    · exact ⟨q.2, by simp [wget, hk], by rw [hk]; exact List.mem_cons_self⟩
    · simp only [List.map_cons, List.mem_cons] at h
      obtain ⟨u, h1, h2⟩ := wget_mem k f (h.resolve_left hk)
      exact ⟨u, by simp [wget, hk, h1], List.mem_cons_of_mem _ h2⟩
theorem fr_lookN {V : Nat → Prop} {w : World} {bf : Nat} {f : Wt} (h : FrIs w V bf f) (x : Int) (u : ByteArray) (hu : wget x f = some u) : ∃ a c, (Instr.lookup 51 (.map (some bf)) (.int .i64 x) false).run Try.prog w = .ok (.slice a u.size c) w ∧ Own 5 w 0 (.slice a u.size c) u := by
  obtain ⟨v, h1, ⟨a, n, c, rfl⟩, h3⟩ := fr_look h x
  have ho := h3 u hu
  obtain ⟨a', c', e⟩ := ho.size
  cases e
  obtain ⟨vs, hm, _⟩ := h
  have e1 := im_ok hm x
  rw [h1] at e1
  have e2 := hm.lookup (P := Try.prog) (t := 51) (kt := 3) (et := 28) (by kernel_rfl) (by kernel_rfl) (fun w => by kernel_rfl) x
  unfold imapGetV at e1
  simp only [Result.ok.injEq, and_true, Value.tuple.injEq] at e1
  have e3 : Value.slice a u.size c = (IM.get x vs).getD (.slice none 0 0) := by
    have := congrArg (fun A : Array Value => A[0]?) e1
    simpa using this
  rw [← e3] at e2
  exact ⟨a, c, e2, ho⟩
/-- the keys' row between two rounds -/
def RowAt (wr : World) (va : Option Addr) (L : List Int) (F : Nat → Prop) : Prop :=
  L = [] ∨ ∃ g, va = some ⟨g, 0, none⟩ ∧ g < wr.heap.size ∧ ¬ F g ∧ ∀ (k : Nat) x, L[k]? = some x → wr.cell? ⟨g, k, none⟩ = some (.int .i64 x)
theorem RowAt.next {w w' : World} {va : Option Addr} {L : List Int} {M M' : SM} {V V' : Nat → Prop} {S' : SS} (h : RowAt w va L M.foot) (hn : SNext w w' V V' M M' S') : RowAt w' va L M'.foot := by
  rcases h with h | ⟨g, h1, h2, h3, h4⟩
  · exact .inl h
  · refine .inr ⟨g, h1, Nat.lt_of_lt_of_le h2 hn.keep.size, fun hf => ?_, fun k x hk => hn.keep.cell (h4 k x hk) h3⟩
    rcases hn.foot g hf with e | e
    · exact h3 e
    · omega
def FluAt (w wr : World) (V : Nat → Prop) (M : SM) (S1 : SS) (L L' : List Int) (D0 : DS) (va : Option Addr) : Prop :=
  ∃ ov D, SNext w wr V V M (M.onto ov) (S1.onto D) ∧ D.dead = false ∧ flL S1 L' D = flL S1 L D0 ∧ RowAt wr va L (M.onto ov).foot
theorem fluAt0 {V : Nat → Prop} {w W w1 : World} {M : SM} {S S1 : SS} (h : SIs w V M S) (hN : SNext w W V V M M S1) (hsz : W.heap.size = w.heap.size) (hb : Below w.heap.size W w1) {v : Value} {L : List Int} (hr : w1.ownsRow w.heap.size 3 1 v L.length (L.map (Value.int .i64))) (hd : S1.D.dead = false) :
    ∀ a n c, v = .slice a n c → FluAt w w1 V M S1 L L S1.D a := by
  rintro a n c rfl
  rw [← hsz] at hb hr
  have hn1 := hN.trans (SNext.refl hN.is hb)
  refine ⟨M.ov, S1.D, hn1, hd, rfl, ?_⟩
  rcases hr.2 with ⟨_, h0⟩ | ⟨g, cap, cur, he, hB, hg, _, _, _, ht⟩
  · left
    cases L with
    | nil => rfl
    | cons x l => simp at h0
  · right
    injection he with e1 e2 e3
    refine ⟨g, e1, blk_lt hg, fun hf => ?_, fun k x hk => ?_⟩
    · have := hN.is.lt g hf
      omega
    · rw [blk_cell hg]
      have hkl : k < L.length := (List.getElem?_eq_some_iff.1 hk).1
      have : (cur.toList.take (L.length * 1))[k]? = some (.int .i64 x) := by rw [ht, List.getElem?_map, hk]; rfl
      rw [List.getElem?_take, if_pos (by omega)] at this
      simpa using this
theorem flushR_dead {D : DS} (h : D.dead = false) (hb : (burnS D).dead = false) : (flushR D).dead = false := by
  unfold flushR
  rw [if_neg (by rw [h]; decide), if_neg (by rw [hb]; decide)]
  exact hb
theorem flushR_len (D : DS) : (flushR D).L.length = D.L.length := by
  unfold flushR
  split
  · rfl
  · split
    · rfl
    · show (setl _ _ _ _).length = _
      rw [setl_length]
theorem hdBytes_size (s : St) (h : s.taken.length ≤ 4096) : (hdBytes s).size ≤ 4011 := by
  unfold hdBytes bitsB
  rw [size_append, be8_size, bitsJ_size]
  unfold bitsN
  omega
theorem SIs.head1 {V : Nat → Prop} {w : World} {M : SM} {S : SS} (h : SIs w V M S) (x : Int) (hx : -1 ≤ x ∧ x ≤ 1) : SNext w (w.setCell ⟨M.p, 12, none⟩ (.int .i64 x)) V V M M { S with head := x } := by
  have hk : Keep (fun i => i = M.p) w (w.setCell ⟨M.p, 12, none⟩ (.int .i64 x)) := (Keep.refl _ w).setEq 12 _
  have hB : ∀ i c z, w.heap[i]? = some (.cells c 5 z) → ¬ i = M.p := fun i c z hc e => h.nbytes i c z hc (.inl e)
  have hst : ∀ (m : StM) (s : St), StIs w V m s → ∀ i, m.blk i → ¬ i = M.p := fun m s hs i hi e => absurd (hs.kind i hi _ _ _ (e ▸ h.blk)) (by decide)
  refine ⟨⟨?_, h.now.keepB hk (hst _ _ h.now) hB, h.was.keepB hk (hst _ _ h.was) hB, row_kept h.mrow hk (fun i hi e => mV_p h (e ▸ hi)), h.mlen, fun i m s g1 g2 => ⟨(h.mks i m s g1 g2).1.keepB hk (hst _ _ (h.mks i m s g1 g2).1) hB, (h.mks i m s g1 g2).2⟩,
    h.disk.keep hk (fun i hi e => (h.apart i (.inl e)).2.2.2 hi) hB, h.nwas, h.ndisk, h.sep, h.sepw, h.stamp, hx⟩, rfl, rfl, hk.mono (fun i hi => .inl hi), fun i hi => .inl hi, fun i hi => .inl hi⟩
  rw [blk_setCell h.blk 12]; simp [sArr]
theorem sflush_any {V : Nat → Prop} {M : SM} {S : SS} (w : World) (h : SIs w V M S) (hd : S.D.dead = false) (hs : S.stamp + 1 ≤ 18446744073709551615) :
    Calls Try.prog 31 #[pS M.p] w fun e w' => ∃ L, L.Perm (S.st.fresh.map (·.1)) ∧ e = .returned (.int .i64 (flushF S L).1) ∧ ∃ ov', SNext w w' V V M (M.onto ov') (flushF S L).2 := by
  have c13 : w.cell? ⟨M.p, 13, none⟩ = some (.int .u64 S.stamp) := blk_cell h.blk 13
  have f13 : w.frozen? ⟨M.p, 13, none⟩ = false := blk_frozen h.blk 13
  have hN := h.stamp1 hs
  obtain ⟨st1, hst1⟩ : ∃ st1, st1 = S.stamp + 1 := ⟨_, rfl⟩
  rw [← hst1] at hN
  have hw1 : IntKind.u64.wrap (S.stamp + 1) = st1 := by rw [hst1]; have := h.stamp.1; rw [IntKind.wrap_u64]; omega
  have hw2 : (S.stamp + 1) % 18446744073709551616 = st1 := by rw [hst1]; have := h.stamp.1; omega
  have HN := Lib.hid hN
  obtain ⟨p, hp⟩ : ∃ p, p = M.p := ⟨_, rfl⟩
  rw [← hp] at c13 f13 HN
  unfold pS
  rw [← hp]
  have HP := Lib.hid hp
  have HH := Lib.hid h
  have HD0 := Lib.hid (show (flT S).D.dead = false from hd)
  have HS1 := Lib.hid hst1
  have hso := (fsorted_any (w.setCell ⟨p, 13, none⟩ (.int .u64 st1)) HN.out.is.now.f HN.out.is.now.nodup (fun q hq => by have := HN.out.is.now.keys q hq; have := HN.out.is.now.hi; omega) HN.out.is.now.fresh_len)
  have hsz : (w.setCell ⟨p, 13, none⟩ (.int .u64 st1)).heap.size = w.heap.size := by simp [World.setCell]
  rw [hsz] at hso
  have HSO := Lib.hid hso
  have HSZ := Lib.hid hsz
  clear hso hsz
  have c3 : w.cell? ⟨p, 3, none⟩ = some (.map (some M.now.bf)) := by rw [hp]; exact blk_cell h.blk 3
  clear h hd hs hst1 hp hN
  go_enter Try.func31, Try.ntmps31
  go_wp2_with (first
    | (go_at_call 58; refine (fkeys_any (some M.now.bf) _).mono ?_; rintro e w0 ⟨rfl, rfl⟩)
    | (go_at_call 57; refine HSO.out.mono ?_; rintro e w1 ⟨v, L, rfl, hperm, hrow, hb⟩
       obtain ⟨n, hn⟩ : ∃ n, n = L.length := ⟨_, rfl⟩
       have hFA := fluAt0 HH.out HN.out HSZ.out hb hrow HD0.out
       obtain ⟨va, vc, hv⟩ : ∃ a c, v = Value.slice a n c := by
         rcases hrow.2 with ⟨hv, h0⟩ | ⟨g, cap, cur, hv, _⟩
         · exact ⟨none, 0, by rw [hn, hv, h0]⟩
         · exact ⟨_, _, by rw [hn]; exact hv⟩
       subst hv
       have HFA := Lib.hid (hFA _ _ _ rfl)
       clear hFA
       have hnl : n ≤ 4096 := by rw [hn, hperm.length_eq, List.length_map]; exact HH.out.now.fresh_len
       have HPE := Lib.hid hperm
       have HNL := Lib.hid hn
       clear hperm hrow hb hn))
  go_loopw [25] (fun i wr => ∃ j : Nat, j ≤ n ∧ i = .int .i64 j ∧ Hid (FluAt w wr V M (flT S) L (L.drop j) (flT S).D va)) (fun i _ => n - (intOf i).toNat)
  case atStart => exact ⟨0, Nat.zero_le _, rfl, HFA⟩
  case round =>
    obtain ⟨j, hj, rfl, HF⟩ := hrel
    by_cases hlt : j < n
    · obtain ⟨ov, D, hsn, hdd, hfl, hrw⟩ := HF.out
      have hjl : j < L.length := by rw [← HNL.out]; exact hlt
      obtain ⟨g, hva, hg1, hg2, hg3⟩ : ∃ g, va = some ⟨g, 0, none⟩ ∧ g < wr.heap.size ∧ ¬ (M.onto ov).foot g ∧ ∀ (k : Nat) x, L[k]? = some x → wr.cell? ⟨g, k, none⟩ = some (.int .i64 x) := by
        rcases hrw with h0 | h0
        · rw [h0] at hjl; cases hjl
        · exact h0
      obtain ⟨x, hx⟩ : ∃ x, x = L[j] := ⟨_, rfl⟩
      have hdr : L.drop j = x :: L.drop (j + 1) := by rw [hx]; exact List.drop_eq_getElem_cons hjl
      have hcx := hg3 j x (by rw [hx]; exact List.getElem?_eq_getElem hjl)
      have hxm : x ∈ S.st.fresh.map (·.1) := HPE.out.mem_iff.1 (by rw [hx]; exact List.getElem_mem hjl)
      obtain ⟨u, hu, hmem⟩ := wget_mem x _ hxm
      have hky := hsn.is.now.keys _ hmem
      simp only at hky
      have hxb : 0 ≤ x ∧ x < 4096 := by have := hky.1; have := hky.2.1; have := hsn.is.now.hi; omega
      obtain ⟨ua, uc, hlk, hown⟩ := fr_lookN (show FrIs wr V M.now.bf S.st.fresh from hsn.is.now.f) x u hu
      have cc3 : wr.cell? ⟨p, 3, none⟩ = some (.map (some M.now.bf)) := by rw [HP.out]; exact blk_cell hsn.is.blk 3
      have HW := Lib.hid (swrite_any (M := M.onto ov) (S := (flT S).onto D) x 2 (.slice ua u.size uc) u wr hsn.is hdd (by omega) hky.2.1 (by decide) (by decide) (by have := HH.out.stamp.1; show 1 ≤ S.stamp + 1; omega) hown.bs hky.2.2)
      have hpg : pgW (flT S) D x = swrD ((flT S).onto D) x 2 u := by unfold pgW; rw [show (flT S).st.fresh = S.st.fresh from rfl, hu]; rfl
      rw [← hpg] at HW
      unfold pS at HW
      rw [show (M.onto ov).p = p from HP.out.symm] at HW
      have hfd : flL (flT S) L (flT S).D = if (pgW (flT S) D x).dead = true then (pgW (flT S) D x, false) else flL (flT S) (L.drop (j + 1)) (pgW (flT S) D x) := by rw [← hfl, hdr]; rfl
      obtain ⟨D', hD'⟩ : ∃ D', D' = pgW (flT S) D x := ⟨_, rfl⟩
      rw [← hD'] at HW hfd
      have HSN := Lib.hid hsn
      have HFD := Lib.hid hfd
      have HRW := Lib.hid hrw
      have i1 : (j : Int) < n := by omega
      have i2 : 0 ≤ x := hxb.1
      clear hsn hdd hfl hrw hx hdr hxm hu hmem hky hown hpg hfd hD' hg1 hg2 hg3 hjl
      subst hva
      cases hde : D'.dead with
      | true =>
        rw [hde] at HW HFD
        go_wp2_with (go_at_call 59; refine HW.out.mono ?_; rintro e w2 ⟨rfl, ov', hn⟩
                     have HN2 := Lib.hid hn
                     clear hn
                     unfold errN)
        go_ret
        refine ⟨L, HPE.out, ?_⟩
        have hF : flushF S L = (9, (flT S).onto D') := by
          unfold flushF
          rw [show S.D = (flT S).D from rfl, HFD.out]
          rfl
        rw [hF]
        exact ⟨rfl, ov', HSN.out.trans HN2.out⟩
      | false =>
        rw [hde] at HW HFD
        go_wp2_with (go_at_call 59; refine HW.out.mono ?_; rintro e w2 ⟨rfl, ov', hn⟩
                     have HN2 := Lib.hid hn
                     clear hn
                     unfold errN)
        refine ⟨⟨j + 1, by omega, by simp, Lib.hid ⟨ov', D', HSN.out.trans HN2.out, hde, ?_, HRW.out.next HN2.out⟩⟩, by simp [intOf]; omega⟩
        rw [HFD.out]; rfl
    · obtain rfl : j = n := by omega
      obtain ⟨ov, D, hsn, hdd, hfl, _⟩ := HF.out
      rw [show L.drop j = [] from List.drop_eq_nil_of_le (by rw [← HNL.out]; exact Nat.le_refl _)] at hfl
      have c5 : wr.cell? ⟨p, 5, none⟩ = some (.pointer (some ⟨M.pd, 0, none⟩)) := by rw [HP.out]; exact blk_cell hsn.is.blk 5
      have HFU := Lib.hid (flush_any wr hsn.is.disk (by have := hsn.is.ndisk; have := hsn.is.now.lo; omega))
      unfold dV at HFU
      obtain ⟨bd, hbd⟩ : ∃ bd, bd = (burnS D).dead := ⟨_, rfl⟩
      have hfe : flushE D = if bd = true then 9 else 0 := by unfold flushE; rw [hdd, hbd]; rfl
      rw [show ((flT S).onto D).D = D from rfl, hfe, show (M.onto ov).pd = M.pd from rfl] at HFU
      have HLE := Lib.hid (show (flushR D).L.length = D.L.length by
        unfold flushR
        split
        · rfl
        · split
          · rfl
          · show (setl _ _ _ _).length = _
            rw [setl_length])
      have HSN := Lib.hid hsn
      have HFF := Lib.hid (show flushF S L = flMid (flT S) (D, true) by unfold flushF; rw [show S.D = (flT S).D from rfl, ← hfl]; rfl)
      have HDD := Lib.hid hdd
      have HBD := Lib.hid hbd
      clear hsn hdd hfl hfe hbd HFA
      cases bd with
      | true =>
        go_wp2_with (go_at_call 60; refine HFU.out.mono ?_; rintro e w2 ⟨c, rfl, rfl, hn⟩
                     have HN2 := Lib.hid hn
                     clear hn
                     simp only [if_true])
        go_ret
        refine ⟨L, HPE.out, ?_⟩
        have hF : flushF S L = (9, (flT S).onto (flushR D)) := by
          rw [HFF.out]
          unfold flMid
          rw [if_neg (fun e => Bool.noConfusion e), if_pos HBD.out.symm]
        rw [hF]
        obtain ⟨ov', hs'⟩ := HSN.out.is.setDisk HN2.out HLE.out
        exact ⟨rfl, ov', HSN.out.trans hs'⟩
      | false =>
        go_wp2_with fail
        refine HFU.out.mono ?_
        rintro e w2 ⟨c, rfl, rfl, hn⟩
        obtain ⟨ov2, hs2⟩ := HSN.out.is.setDisk hn HLE.out
        have hS2 := HSN.out.trans hs2
        have hd2 := flushR_dead HDD.out HBD.out.symm
        obtain ⟨D2, hD2⟩ : ∃ D2, D2 = flushR D := ⟨_, rfl⟩
        have HFE := Lib.hid (show flushF S L = flEnd (flT S) D2 by
          rw [HFF.out, hD2]
          unfold flMid
          rw [if_neg (fun e => Bool.noConfusion e), if_neg (by rw [HBD.out.symm]; decide)])
        rw [show (((flT S).onto D).onto (flushR D)) = (flT S).onto D2 by rw [hD2]; rfl] at hS2
        rw [← hD2] at hd2
        have c12 : w2.cell? ⟨p, 12, none⟩ = some (.int .i64 S.head) := by rw [HP.out]; exact blk_cell hS2.is.blk 12
        have HS2 := Lib.hid (show SNext w w2 V V M (M.onto ov2) ((flT S).onto D2) from hS2)
        have HD2 := Lib.hid hd2
        clear hn hs2 hS2 hd2 hD2 HFF HDD HBD HSN HLE HFU HF HSO HN HSZ
        simp only [Bool.false_eq_true, if_false]
        clear c3 c13 f13 hw1 hw2 c5
        go_upto_if 55 with fail
        go_cut [7] (fun s7 wx => s7 = .int .i64 (otherH S) ∧ wx = w2)
        case first =>
          by_cases hh : S.head = 1
          · have hq : (S.head == 1) = true := by simp [hh]
            go_wp2_with fail
            go_meet
            exact ⟨by unfold otherH; rw [if_pos hh], rfl⟩
          · have hq : (S.head == 1) = false := by simp [hh]
            go_wp2_with fail
            go_meet
            exact ⟨by unfold otherH; rw [if_neg hh], rfl⟩
        case rest =>
          obtain ⟨rfl, hw⟩ := hcut
          obtain rfl := hw.symm
          obtain ⟨oth, hoth⟩ : ∃ oth, oth = otherH S := ⟨_, rfl⟩
          have ho01 : 0 ≤ oth ∧ oth ≤ 1 := by rw [hoth]; unfold otherH; split <;> omega
          rw [← hoth]
          have hS2 := HS2.out.is
          have hhi := hS2.now.hi
          have hlo := hS2.now.lo
          have hrt := hS2.now.root
          have hb2 := hS2.blk
          obtain ⟨rt, hrt'⟩ : ∃ rt, rt = S.st.root := ⟨_, rfl⟩
          obtain ⟨tn, htn⟩ : ∃ tn, tn = S.st.taken.length := ⟨_, rfl⟩
          have hrt0 : 0 ≤ rt ∧ rt < 4096 := by rw [hrt']; exact ⟨hrt.1, by have := hrt.2; have h' : S.st.taken.length ≤ 4096 := hhi; have h2 : S.st.root < S.st.taken.length := this; omega⟩
          have htn' : 4 ≤ tn ∧ tn ≤ 4096 := by rw [htn]; exact ⟨hlo, hhi⟩
          have HC0 := Lib.hid (show w2.drew.cell? ⟨p, 0, none⟩ = some (.int .i64 rt) ∧ w2.drew.cell? ⟨p, 1, none⟩ = some (.slice (some ⟨M.now.bt, 0, none⟩) tn M.now.ct) from ⟨by rw [HP.out, hrt']; exact blk_cell hb2 0, by rw [HP.out, htn]; exact blk_cell hb2 1⟩)
          have CB := Lib.hid fun (X : World) (hb : Below w2.drew.heap.size w2.drew X) => show X.cell? ⟨p, 0, none⟩ = some (.int .i64 rt) ∧ X.cell? ⟨p, 1, none⟩ = some (.slice (some ⟨M.now.bt, 0, none⟩) tn M.now.ct) from ⟨(Keep.ofBelow hb (fun _ => False)).cell HC0.out.1 (fun h => h), (Keep.ofBelow hb (fun _ => False)).cell HC0.out.2 (fun h => h)⟩
          have CW := Lib.hid fun (X : World) (ov' : Value) (D' : DS) (hx : SIs X V (M.onto ov') ((flT S).onto D')) => show X.cell? ⟨p, 0, none⟩ = some (.int .i64 rt) ∧ X.cell? ⟨p, 1, none⟩ = some (.slice (some ⟨M.now.bt, 0, none⟩) tn M.now.ct) from ⟨by rw [HP.out, hrt']; exact blk_cell hx.blk 0, by rw [HP.out, htn]; exact blk_cell hx.blk 1⟩
          have HBR := Lib.hid hS2.now.t
          have HBI := Lib.hid fun (X : World) (hb : Below w2.drew.heap.size w2.drew X) => show Calls Try.prog 61 #[.slice (some ⟨M.now.bt, 0, none⟩) tn M.now.ct] X fun e w' => ∃ v, e = .returned v ∧ Own 5 w' X.heap.size v (bitsB S.st.taken) ∧ Below X.heap.size X w' by
            have := bits_any M.now.bt M.now.ct S.st.taken X (HBR.out.keep (Keep.ofBelow (((Below.refl _ w2).drew).trans hb) (fun _ => False)) (fun h => h)) hhi (by omega)
            rwa [← htn] at this
          have HUI := Lib.hid fun (X : World) => show Calls Try.prog 50 #[.slice none 0 0, .int .u64 rt] X fun e w' => ∃ v, e = .returned v ∧ Own 5 w' X.heap.size v (be8 rt) ∧ Below X.heap.size X w' by
            have := uint_w (.slice none 0 0) ByteArray.empty rt hrt0.1 (by omega) X (BS.nil _) (by decide)
            rwa [ByteArray.empty_append] at this
          obtain ⟨D3, hD3⟩ : ∃ D3, D3 = swrD ((flT S).onto D2) oth 1 (hdBytes S.st) := ⟨_, rfl⟩
          have HWI := Lib.hid fun (X : World) (v : Value) (hb : Below w2.heap.size w2 X) (hv : BS X v (be8 rt ++ bitsB S.st.taken)) => show Calls Try.prog 59 #[.pointer (some ⟨p, 0, none⟩), .int .i64 oth, .int .u8 1, v] X fun e w' => e = .returned (.int .i64 (errN D3.dead)) ∧ ∃ ov', SNext X w' V V (M.onto ov2) (M.onto ov') ((flT S).onto D3) by
            have hv' : BS X v (hdBytes S.st) := by unfold hdBytes; rw [← hrt']; exact hv
            have := swrite_any (M := M.onto ov2) (S := (flT S).onto D2) oth 1 v (hdBytes S.st) X (hS2.below hb) HD2.out ho01.1 (by have : 4 ≤ S.st.taken.length := hlo; show oth < (S.st.taken.length : Int); omega) (by decide) (by decide) (by have := HH.out.stamp.1; show 1 ≤ S.stamp + 1; omega) hv' (hdBytes_size _ hhi)
            rw [← hD3] at this
            unfold pS at this
            rw [show (M.onto ov2).p = p from HP.out.symm] at this
            exact this
          have trw : IntKind.u64.wrap rt = rt := by rw [IntKind.wrap_u64]; omega
          have HFE2 := Lib.hid (show flushF S L = if D3.dead = true then (9, (flT S).onto D3) else if (burnS D3).dead = true then (9, (flT S).onto (flushR D3)) else (0, { (flT S).onto (flushR D3) with head := oth }) by
            rw [HFE.out, hD3, hoth]; rfl)
          have HL3 := Lib.hid (show D3.L.length = D2.L.length by rw [hD3]; rfl)
          have hbz : (bitsB S.st.taken).size = bitsN tn := by rw [htn]; exact bitsJ_size _ _
          have hbn : bitsN tn ≤ 512 := by unfold bitsN; omega
          have HBZ := Lib.hid hbz
          have HBN := Lib.hid hbn
          obtain ⟨bn, hbn'⟩ : ∃ bn, bn = bitsN tn := ⟨_, rfl⟩
          rw [← hbn'] at HBZ HBN
          obtain ⟨zz, hzz⟩ : ∃ zz, zz = (be8 rt ++ bitsB S.st.taken).size := ⟨_, rfl⟩
          have HZZ := Lib.hid hzz.symm
          clear hzz hoth hS2 hhi hlo hrt hb2 hrt' htn hD3 HFE hbz hbn hbn'
          go_wp2_with fail
          refine wp_region_held_drew (S := (fun w' => w'.cell? ⟨p, 0, none⟩ = some (.int .i64 rt) ∧ w'.cell? ⟨p, 1, none⟩ = some (.slice (some ⟨M.now.bt, 0, none⟩) tn M.now.ct))) (by kernel_rfl) ?_ (fun hHeld0 => ?_)
          · (try dsimp only)
            first | with_reducible exact HC0.out | with_reducible exact CB.out _ HBU.out | with_reducible exact CB.out _ HBB.out | with_reducible exact CB.out _ HB5.out | with_reducible exact CW.out _ _ _ HN6.out.is
          refine takeN (v := ?_) 0 rfl (by kernel_rfl) (by kernel_rfl) (by kernel_rfl) (fun _ _ _ h => h) (by rfl) ?_ hHeld0 ?_
          rotate_left
          · intro w hSw; (try dsimp only at hSw); go_simp; with_reducible rfl
          try simp only [Act.put, List.setIfInBounds_toArray, List.set_cons_zero, List.set_cons_succ]
          refine takeN (v := ?_) 1 rfl (by kernel_rfl) (by kernel_rfl) (by kernel_rfl) (fun _ _ _ h => h) (by rfl) ?_ hHeld0 ?_
          rotate_left
          · intro w hSw; (try dsimp only at hSw); go_simp; with_reducible rfl
          try simp only [Act.put, List.setIfInBounds_toArray, List.set_cons_zero, List.set_cons_succ]
          refine takeN (v := ?_) 2 rfl (by kernel_rfl) (by kernel_rfl) (by kernel_rfl) (fun _ _ _ h => h) (by rfl) ?_ hHeld0 ?_
          rotate_left
          · intro w hSw; (try dsimp only at hSw); go_simp; with_reducible rfl
          try simp only [Act.put, List.setIfInBounds_toArray, List.set_cons_zero, List.set_cons_succ]
          refine takeN (v := ?_) 3 rfl (by kernel_rfl) (by kernel_rfl) (by kernel_rfl) (fun _ _ _ h => h) (by rfl) ?_ hHeld0 ?_
          rotate_left
          · intro w hSw; (try dsimp only at hSw); go_simp; with_reducible rfl
          try simp only [Act.put, List.setIfInBounds_toArray, List.set_cons_zero, List.set_cons_succ]
          refine takeN (v := ?_) 4 rfl (by kernel_rfl) (by kernel_rfl) (by kernel_rfl) (fun _ _ _ h => h) (by rfl) ?_ hHeld0 ?_
          rotate_left
          · intro w hSw; (try dsimp only at hSw); go_simp; with_reducible rfl
          try simp only [Act.put, List.setIfInBounds_toArray, List.set_cons_zero, List.set_cons_succ]
          refine takeN (v := ?_) 5 rfl (by kernel_rfl) (by kernel_rfl) (by kernel_rfl) (fun _ _ _ h => h) (by rfl) ?_ hHeld0 ?_
          rotate_left
          · intro w hSw; (try dsimp only at hSw); go_simp; with_reducible rfl
          try simp only [Act.put, List.setIfInBounds_toArray, List.set_cons_zero, List.set_cons_succ]
          refine takeN (v := ?_) 6 rfl (by kernel_rfl) (by kernel_rfl) (by kernel_rfl) (fun _ _ _ h => h) (by rfl) ?_ hHeld0 ?_
          rotate_left
          · intro w hSw; (try dsimp only at hSw); go_simp; with_reducible rfl
          try simp only [Act.put, List.setIfInBounds_toArray, List.set_cons_zero, List.set_cons_succ]
          refine takeN (v := ?_) 7 rfl (by kernel_rfl) (by kernel_rfl) (by kernel_rfl) (fun _ _ _ h => h) (by rfl) ?_ hHeld0 ?_
          rotate_left
          · intro w hSw; (try dsimp only at hSw); go_simp; with_reducible rfl
          try simp only [Act.put, List.setIfInBounds_toArray, List.set_cons_zero, List.set_cons_succ]
          refine takeN (v := ?_) 9 rfl (by kernel_rfl) (by kernel_rfl) (by kernel_rfl) (fun _ _ _ h => h) (by rfl) ?_ hHeld0 ?_
          rotate_left
          · intro w hSw; (try dsimp only at hSw); go_simp; with_reducible rfl
          try simp only [Act.put, List.setIfInBounds_toArray, List.set_cons_zero, List.set_cons_succ]
          refine takeN (v := ?_) 10 rfl (by kernel_rfl) (by kernel_rfl) (by kernel_rfl) (fun _ _ _ h => h) (by rfl) ?_ hHeld0 ?_
          rotate_left
          · intro w hSw; (try dsimp only at hSw); go_simp; with_reducible rfl
          try simp only [Act.put, List.setIfInBounds_toArray, List.set_cons_zero, List.set_cons_succ]
          refine takeN (v := ?_) 11 rfl (by kernel_rfl) (by kernel_rfl) (by kernel_rfl) (fun _ _ _ h => h) (by rfl) ?_ hHeld0 ?_
          rotate_left
          · intro w hSw; (try dsimp only at hSw); go_simp; with_reducible rfl
          try simp only [Act.put, List.setIfInBounds_toArray, List.set_cons_zero, List.set_cons_succ]
          refine takeN (v := ?_) 12 rfl (by kernel_rfl) (by kernel_rfl) (by kernel_rfl) (fun _ _ _ h => h) (by rfl) ?_ hHeld0 ?_
          rotate_left
          · intro w hSw; (try dsimp only at hSw); go_simp; with_reducible rfl
          try simp only [Act.put, List.setIfInBounds_toArray, List.set_cons_zero, List.set_cons_succ]
          refine takeN (v := ?_) 13 rfl (by kernel_rfl) (by kernel_rfl) (by kernel_rfl) (fun _ _ _ h => h) (by rfl) ?_ hHeld0 ?_
          rotate_left
          · intro w hSw; (try dsimp only at hSw); go_simp; with_reducible rfl
          try simp only [Act.put, List.setIfInBounds_toArray, List.set_cons_zero, List.set_cons_succ]
          refine wpAnyH_ready (rs := [8]) (by kernel_rfl) (by simp) ?_
          refine readyN rfl (fun K hK => ?_) ?_
          · -- operation 8
            go_simp
            first
              | (go_at_call 50; refine (HUI.out _).mono ?_; rintro e wu ⟨vu, rfl, ho, hb⟩; obtain ⟨au, cu, rfl⟩ := ho.size8
                 have HBU := Lib.hid (show Below w2.drew.heap.size w2.drew wu from (by first | exact below_and HBB.out hb | exact hb))
                 have HOU := Lib.hid ho
                 have HBU1 := Lib.hid hb
                 try (obtain ⟨v5, w5, hap, ho5, hg5⟩ := app_bs_ex wu wb.heap.size 28 5 28 uBytes iByte (.slice au 8 cu) (.slice ab bn cb) (be8 rt) (bitsB S.st.taken) ho (HOB.out.below hb).bs hb.size (by rw [be8_size, HBZ.out]; have := HBN.out; omega)
                      have HB5 := Lib.hid (HBB.out.trans (hb.mono HBB.out.size |>.trans (hg5.below (B := w2.drew.heap.size) HBU.out.size (fun k hk => Nat.le_trans HBB.out.size (ho.base_le k hk).1))))
                      obtain ⟨a5, c5, rfl, _, _⟩ := ho5.bs.len2 HZZ.out
                      have HO5 := Lib.hid ho5
                      have HAP := Lib.hid hap
                      clear hap ho5 hg5)
                 clear ho hb)
              | (go_at_call 61; refine (HBI.out _ (by first | exact Below.refl _ _ | exact HBU.out)).mono ?_; rintro e wb ⟨vb, rfl, ho, hb⟩; obtain ⟨ab, cb, _, _, _⟩ := ho.bs.len2 HBZ.out; subst vb
                 have HBB := Lib.hid (show Below w2.drew.heap.size w2.drew wb from (by first | exact below_and HBU.out hb | exact hb))
                 have HOB := Lib.hid ho
                 try (obtain ⟨v5, w5, hap, ho5, hg5⟩ := app_bs_ex wb w2.heap.size 28 5 28 uBytes iByte (.slice au 8 cu) (.slice ab bn cb) (be8 rt) (bitsB S.st.taken) (HOU.out.below hb) ho.bs HBB.out.size (by rw [be8_size, HBZ.out]; have := HBN.out; omega)
                      have HB5 := Lib.hid (show Below w2.drew.heap.size w2.drew w5 from HBB.out.trans (hg5.below (B := w2.drew.heap.size) HBB.out.size (fun k hk => (HOU.out.base_le k hk).1)))
                      obtain ⟨a5, c5, rfl, _, _⟩ := ho5.bs.len2 HZZ.out
                      have HO5 := Lib.hid ho5
                      have HAP := Lib.hid hap
                      clear hap ho5 hg5)
                 clear ho hb)
              | (go_at_call 59; refine (HWI.out w5 _ (((Below.refl _ w2).drew).trans HB5.out) HO5.out.bs).mono ?_; rintro e w6 ⟨rfl, ov3, hn⟩
                 have HN6 := Lib.hid hn
                 clear hn)
              | (refine wp_append_run _ _ 28 (v := .slice au 8 cu) (y := .slice ab bn cb) rfl rfl rfl (by with_reducible exact HAP.out) ?_)
            go_wp2_with fail
            refine hK.out _ _ ?_ (fun hHeld1 => ?_)
            · (try dsimp only)
              first | with_reducible exact HC0.out | with_reducible exact CB.out _ HBU.out | with_reducible exact CB.out _ HBB.out | with_reducible exact CB.out _ HB5.out | with_reducible exact CW.out _ _ _ HN6.out.is
            clear hK K hHeld0
            try simp only [Act.put, List.setIfInBounds_toArray, List.set_cons_zero, List.set_cons_succ]
            refine wpAnyH_ready (rs := [14]) (by kernel_rfl) (by simp) ?_
            refine readyN rfl (fun K hK => ?_) ?_
            · -- operation 14
              go_simp
              first
                | (go_at_call 50; refine (HUI.out _).mono ?_; rintro e wu ⟨vu, rfl, ho, hb⟩; obtain ⟨au, cu, rfl⟩ := ho.size8
                   have HBU := Lib.hid (show Below w2.drew.heap.size w2.drew wu from (by first | exact below_and HBB.out hb | exact hb))
                   have HOU := Lib.hid ho
                   have HBU1 := Lib.hid hb
                   try (obtain ⟨v5, w5, hap, ho5, hg5⟩ := app_bs_ex wu wb.heap.size 28 5 28 uBytes iByte (.slice au 8 cu) (.slice ab bn cb) (be8 rt) (bitsB S.st.taken) ho (HOB.out.below hb).bs hb.size (by rw [be8_size, HBZ.out]; have := HBN.out; omega)
                        have HB5 := Lib.hid (HBB.out.trans (hb.mono HBB.out.size |>.trans (hg5.below (B := w2.drew.heap.size) HBU.out.size (fun k hk => Nat.le_trans HBB.out.size (ho.base_le k hk).1))))
                        obtain ⟨a5, c5, rfl, _, _⟩ := ho5.bs.len2 HZZ.out
                        have HO5 := Lib.hid ho5
                        have HAP := Lib.hid hap
                        clear hap ho5 hg5)
                   clear ho hb)
                | (go_at_call 61; refine (HBI.out _ (by first | exact Below.refl _ _ | exact HBU.out)).mono ?_; rintro e wb ⟨vb, rfl, ho, hb⟩; obtain ⟨ab, cb, _, _, _⟩ := ho.bs.len2 HBZ.out; subst vb
                   have HBB := Lib.hid (show Below w2.drew.heap.size w2.drew wb from (by first | exact below_and HBU.out hb | exact hb))
                   have HOB := Lib.hid ho
                   try (obtain ⟨v5, w5, hap, ho5, hg5⟩ := app_bs_ex wb w2.heap.size 28 5 28 uBytes iByte (.slice au 8 cu) (.slice ab bn cb) (be8 rt) (bitsB S.st.taken) (HOU.out.below hb) ho.bs HBB.out.size (by rw [be8_size, HBZ.out]; have := HBN.out; omega)
                        have HB5 := Lib.hid (show Below w2.drew.heap.size w2.drew w5 from HBB.out.trans (hg5.below (B := w2.drew.heap.size) HBB.out.size (fun k hk => (HOU.out.base_le k hk).1)))
                        obtain ⟨a5, c5, rfl, _, _⟩ := ho5.bs.len2 HZZ.out
                        have HO5 := Lib.hid ho5
                        have HAP := Lib.hid hap
                        clear hap ho5 hg5)
                   clear ho hb)
                | (go_at_call 59; refine (HWI.out w5 _ (((Below.refl _ w2).drew).trans HB5.out) HO5.out.bs).mono ?_; rintro e w6 ⟨rfl, ov3, hn⟩
                   have HN6 := Lib.hid hn
                   clear hn)
                | (refine wp_append_run _ _ 28 (v := .slice au 8 cu) (y := .slice ab bn cb) rfl rfl rfl (by with_reducible exact HAP.out) ?_)
              go_wp2_with fail
              refine hK.out _ _ ?_ (fun hHeld2 => ?_)
              · (try dsimp only)
                first | with_reducible exact HC0.out | with_reducible exact CB.out _ HBU.out | with_reducible exact CB.out _ HBB.out | with_reducible exact CB.out _ HB5.out | with_reducible exact CW.out _ _ _ HN6.out.is
              clear hK K hHeld1
              try simp only [Act.put, List.setIfInBounds_toArray, List.set_cons_zero, List.set_cons_succ]
              refine wpAnyH_ready (rs := [15]) (by kernel_rfl) (by simp) ?_
              refine readyN rfl (fun K hK => ?_) ?_
              · -- operation 15
                first
                  | (go_at_call 50; refine (HUI.out _).mono ?_; rintro e wu ⟨vu, rfl, ho, hb⟩; obtain ⟨au, cu, rfl⟩ := ho.size8
                     have HBU := Lib.hid (show Below w2.drew.heap.size w2.drew wu from (by first | exact below_and HBB.out hb | exact hb))
                     have HOU := Lib.hid ho
                     have HBU1 := Lib.hid hb
                     try (obtain ⟨v5, w5, hap, ho5, hg5⟩ := app_bs_ex wu wb.heap.size 28 5 28 uBytes iByte (.slice au 8 cu) (.slice ab bn cb) (be8 rt) (bitsB S.st.taken) ho (HOB.out.below hb).bs hb.size (by rw [be8_size, HBZ.out]; have := HBN.out; omega)
                          have HB5 := Lib.hid (HBB.out.trans (hb.mono HBB.out.size |>.trans (hg5.below (B := w2.drew.heap.size) HBU.out.size (fun k hk => Nat.le_trans HBB.out.size (ho.base_le k hk).1))))
                          obtain ⟨a5, c5, rfl, _, _⟩ := ho5.bs.len2 HZZ.out
                          have HO5 := Lib.hid ho5
                          have HAP := Lib.hid hap
                          clear hap ho5 hg5)
                     clear ho hb)
                  | (go_at_call 61; refine (HBI.out _ (by first | exact Below.refl _ _ | exact HBU.out)).mono ?_; rintro e wb ⟨vb, rfl, ho, hb⟩; obtain ⟨ab, cb, _, _, _⟩ := ho.bs.len2 HBZ.out; subst vb
                     have HBB := Lib.hid (show Below w2.drew.heap.size w2.drew wb from (by first | exact below_and HBU.out hb | exact hb))
                     have HOB := Lib.hid ho
                     try (obtain ⟨v5, w5, hap, ho5, hg5⟩ := app_bs_ex wb w2.heap.size 28 5 28 uBytes iByte (.slice au 8 cu) (.slice ab bn cb) (be8 rt) (bitsB S.st.taken) (HOU.out.below hb) ho.bs HBB.out.size (by rw [be8_size, HBZ.out]; have := HBN.out; omega)
                          have HB5 := Lib.hid (show Below w2.drew.heap.size w2.drew w5 from HBB.out.trans (hg5.below (B := w2.drew.heap.size) HBB.out.size (fun k hk => (HOU.out.base_le k hk).1)))
                          obtain ⟨a5, c5, rfl, _, _⟩ := ho5.bs.len2 HZZ.out
                          have HO5 := Lib.hid ho5
                          have HAP := Lib.hid hap
                          clear hap ho5 hg5)
                     clear ho hb)
                  | (go_at_call 59; refine (HWI.out w5 _ (((Below.refl _ w2).drew).trans HB5.out) HO5.out.bs).mono ?_; rintro e w6 ⟨rfl, ov3, hn⟩
                     have HN6 := Lib.hid hn
                     clear hn)
                  | (refine wp_append_run _ _ 28 (v := .slice au 8 cu) (y := .slice ab bn cb) rfl rfl rfl (by with_reducible exact HAP.out) ?_)
                refine hK.out _ _ ?_ (fun hHeld3 => ?_)
                · (try dsimp only)
                  first | with_reducible exact HC0.out | with_reducible exact CB.out _ HBU.out | with_reducible exact CB.out _ HBB.out | with_reducible exact CB.out _ HB5.out | with_reducible exact CW.out _ _ _ HN6.out.is
                clear hK K hHeld2
                try simp only [Act.put, List.setIfInBounds_toArray, List.set_cons_zero, List.set_cons_succ]
                refine wpAnyH_ready (rs := [16]) (by kernel_rfl) (by simp) ?_
                refine readyN rfl (fun K hK => ?_) ?_
                · -- operation 16
                  go_simp
                  first
                    | (go_at_call 50; refine (HUI.out _).mono ?_; rintro e wu ⟨vu, rfl, ho, hb⟩; obtain ⟨au, cu, rfl⟩ := ho.size8
                       have HBU := Lib.hid (show Below w2.drew.heap.size w2.drew wu from (by first | exact below_and HBB.out hb | exact hb))
                       have HOU := Lib.hid ho
                       have HBU1 := Lib.hid hb
                       try (obtain ⟨v5, w5, hap, ho5, hg5⟩ := app_bs_ex wu wb.heap.size 28 5 28 uBytes iByte (.slice au 8 cu) (.slice ab bn cb) (be8 rt) (bitsB S.st.taken) ho (HOB.out.below hb).bs hb.size (by rw [be8_size, HBZ.out]; have := HBN.out; omega)
                            have HB5 := Lib.hid (HBB.out.trans (hb.mono HBB.out.size |>.trans (hg5.below (B := w2.drew.heap.size) HBU.out.size (fun k hk => Nat.le_trans HBB.out.size (ho.base_le k hk).1))))
                            obtain ⟨a5, c5, rfl, _, _⟩ := ho5.bs.len2 HZZ.out
                            have HO5 := Lib.hid ho5
                            have HAP := Lib.hid hap
                            clear hap ho5 hg5)
                       clear ho hb)
                    | (go_at_call 61; refine (HBI.out _ (by first | exact Below.refl _ _ | exact HBU.out)).mono ?_; rintro e wb ⟨vb, rfl, ho, hb⟩; obtain ⟨ab, cb, _, _, _⟩ := ho.bs.len2 HBZ.out; subst vb
                       have HBB := Lib.hid (show Below w2.drew.heap.size w2.drew wb from (by first | exact below_and HBU.out hb | exact hb))
                       have HOB := Lib.hid ho
                       try (obtain ⟨v5, w5, hap, ho5, hg5⟩ := app_bs_ex wb w2.heap.size 28 5 28 uBytes iByte (.slice au 8 cu) (.slice ab bn cb) (be8 rt) (bitsB S.st.taken) (HOU.out.below hb) ho.bs HBB.out.size (by rw [be8_size, HBZ.out]; have := HBN.out; omega)
                            have HB5 := Lib.hid (show Below w2.drew.heap.size w2.drew w5 from HBB.out.trans (hg5.below (B := w2.drew.heap.size) HBB.out.size (fun k hk => (HOU.out.base_le k hk).1)))
                            obtain ⟨a5, c5, rfl, _, _⟩ := ho5.bs.len2 HZZ.out
                            have HO5 := Lib.hid ho5
                            have HAP := Lib.hid hap
                            clear hap ho5 hg5)
                       clear ho hb)
                    | (go_at_call 59; refine (HWI.out w5 _ (((Below.refl _ w2).drew).trans HB5.out) HO5.out.bs).mono ?_; rintro e w6 ⟨rfl, ov3, hn⟩
                       have HN6 := Lib.hid hn
                       clear hn)
                    | (refine wp_append_run _ _ 28 (v := .slice au 8 cu) (y := .slice ab bn cb) rfl rfl rfl (by with_reducible exact HAP.out) ?_)
                  go_wp2_with fail
                  refine hK.out _ _ ?_ (fun hHeld4 => ?_)
                  · (try dsimp only)
                    first | with_reducible exact HC0.out | with_reducible exact CB.out _ HBU.out | with_reducible exact CB.out _ HBB.out | with_reducible exact CB.out _ HB5.out | with_reducible exact CW.out _ _ _ HN6.out.is
                  clear hK K hHeld3
                  try simp only [Act.put, List.setIfInBounds_toArray, List.set_cons_zero, List.set_cons_succ]
                  refine takeN (v := ?_) 17 rfl (by kernel_rfl) (by kernel_rfl) (by kernel_rfl) (fun _ _ _ h => h) (by rfl) ?_ hHeld4 ?_
                  rotate_left
                  · intro w hSw; (try dsimp only at hSw); go_simp; with_reducible rfl
                  try simp only [Act.put, List.setIfInBounds_toArray, List.set_cons_zero, List.set_cons_succ]
                  refine wpAnyH_done (by kernel_rfl) ?_ _
                  have HS6 := Lib.hid ((HS2.out.trans (SNext.refl HS2.out.is (((Below.refl _ w2).drew).trans HB5.out))).trans HN6.out)
                  clear HAP HO5 HB5 HOB HBB HBU1 HOU HBU HN6 HUI HBI HBR HC0 HWI
                  cases hd3 : D3.dead with
                  | true =>
                    unfold errN
                    rw [hd3] at HFE2
                    simp only [if_true] at HFE2 ⊢
                    clear hd3
                    go_wp2
                    go_ret
                    refine ⟨L, HPE.out, ?_⟩
                    rw [HFE2.out]
                    exact ⟨rfl, ov3, HS6.out⟩
                  | false =>
                    have c5 : w6.cell? ⟨p, 5, none⟩ = some (.pointer (some ⟨M.pd, 0, none⟩)) := by rw [HP.out]; exact blk_cell HS6.out.is.blk 5
                    have hfu := flush_any w6 HS6.out.is.disk (by have := HS6.out.is.ndisk; have := HS6.out.is.now.lo; omega)
                    unfold dV at hfu
                    obtain ⟨bd, hbd⟩ : ∃ bd, bd = (burnS D3).dead := ⟨_, rfl⟩
                    have hfe : flushE D3 = if bd = true then 9 else 0 := by unfold flushE; rw [hd3, hbd]; rfl
                    rw [show ((flT S).onto D3).D = D3 from rfl, hfe, show (M.onto ov3).pd = M.pd from rfl] at hfu
                    have HFU := Lib.hid hfu
                    rw [hd3, ← hbd] at HFE2
                    simp only [Bool.false_eq_true, if_false] at HFE2
                    unfold errN
                    simp only [Bool.false_eq_true, if_false]
                    have HLE := Lib.hid (flushR_len D3)
                    clear hfu hfe hbd hd3
                    cases bd with
                    | true =>
                      go_wp2_with (go_at_call 60; refine HFU.out.mono ?_; rintro e w7 ⟨c, rfl, rfl, hn⟩
                                   have HN7 := Lib.hid hn
                                   clear hn
                                   simp only [if_true])
                      go_ret
                      refine ⟨L, HPE.out, ?_⟩
                      simp only [if_true] at HFE2
                      rw [HFE2.out]
                      obtain ⟨ov', hs'⟩ := HS6.out.is.setDisk HN7.out HLE.out
                      exact ⟨rfl, ov', HS6.out.trans hs'⟩
                    | false =>
                      go_wp2_with (go_at_call 60; refine HFU.out.mono ?_; rintro e w7 ⟨c, rfl, rfl, hn⟩
                                   obtain ⟨ov', hs'⟩ := HS6.out.is.setDisk hn HLE.out
                                   have HN7 := Lib.hid (HS6.out.trans hs')
                                   have c12 : w7.cell? ⟨p, 12, none⟩ = some (.int .i64 S.head) := by rw [HP.out]; exact blk_cell hs'.is.blk 12
                                   have f12 : w7.frozen? ⟨p, 12, none⟩ = false := by rw [HP.out]; exact blk_frozen hs'.is.blk 12
                                   clear hn hs'
                                   simp only [Bool.false_eq_true, if_false])
                      go_ret
                      refine ⟨L, HPE.out, ?_⟩
                      simp only [Bool.false_eq_true, if_false] at HFE2
                      rw [HFE2.out]
                      have hh := HN7.out.is.head1 oth (by omega)
                      rw [HP.out]
                      exact ⟨rfl, ov', HN7.out.trans hh⟩
                exact AllReadyH.nil
              exact AllReadyH.nil
            exact AllReadyH.nil
          exact AllReadyH.nil
end Go.Proofs.Ytlmngghkhnnaeaa
