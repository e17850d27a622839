/- The walk of kv's Range: pairs in order. -/
import Derived.Test.YtidppalhjknlfaaDoorQPairs
import Derived.WalkLawsBesides
namespace Go.Proofs.YtidppalhjknlfaaDoor
open Go.RowKit
set_option maxRecDepth 100000
set_option linter.unusedVariables false
set_option linter.unusedSimpArgs false

/-! ### a range over a map, step by step -/
theorem range_step {P : Program} (w : World) (r b c : Nat) (seen : Array Nat) (es : Array MapEntry) (hr : w.heap[r]? = some (.mapIter (some b) c seen c)) (hb : w.heap[b]? = some (.map es c))
    (hborn : ∀ x ∈ es.toList, x.born < c) (hnd : (es.toList.map (·.born)).Nodup) :
    ((leftOf es seen).size = 0 ∧ ∀ ty, (Instr.next (.pointer (some ⟨r, 0, none⟩)) false ty).run P w = .ok (.tuple #[.bool false]) w) ∨
    ∃ e w2, e ∈ es.toList ∧ e.born ∉ seen.toList ∧ (∀ ty, (Instr.next (.pointer (some ⟨r, 0, none⟩)) false ty).run P w = .ok (.tuple #[.bool true, e.key, e.val]) w2) ∧
      (Instr.entry (.pointer (some ⟨r, 0, none⟩))).run P w2 = .ok (.tuple #[e.key, e.val]) w2 ∧ w2.heap[r]? = some (.mapIter (some b) c (seen.push e.born) c) ∧ Keep (fun i => i = r) w w2 := by
  rcases run_next_at (P := P) w 0 r b c c seen es c hr hb hborn (Nat.le_refl _) with ⟨h0, h1⟩ | ⟨e, he, w1, hw, h1⟩
  · exact .inl ⟨h0, fun ty => h1⟩
  · have he' : e ∈ es.toList ∧ e.born ∉ seen.toList := by
      unfold leftOf at he
      simp only [Array.toList_filter, List.mem_filter, Bool.not_eq_true'] at he
      refine ⟨he.1, fun hm => ?_⟩
      have := he.2
      simp at this
      exact this (by simpa using hm)
    have hne : r ≠ b := by intro h; subst h; rw [hr] at hb; cases hb
    have hr1 : w1.heap[r]? = some (.mapIter (some b) c seen c) := by rcases hw with rfl | rfl <;> exact hr
    have hb1 : w1.heap[b]? = some (.map es c) := by rcases hw with rfl | rfl <;> exact hb
    have hk1 : Keep (fun i => i = r) w w1 := by
      rcases hw with rfl | rfl
      · exact Keep.refl _ _
      · exact (Keep.refl _ _).drew
    have hr2 := heap_setBlock_eq w1 r (.mapIter (some b) c (seen.push e.born) c) (blk_lt hr1)
    have hb2 := (heap_setBlock_ne w1 r (.mapIter (some b) c (seen.push e.born) c) b hne.symm).trans hb1
    refine .inr ⟨e, _, he'.1, he'.2, fun ty => h1, run_entry_at _ r b c seen es c e hr2 hb2 he'.1 hnd, hr2, hk1.setBlock (.inl rfl) _⟩

/-! ### what Range answers -/
def selB (f t k : ByteArray) : Bool := !slt k f && (decide (t.size = 0) || slt k t)
def keyOf' (e : MapEntry) : ByteArray := match e.key with | .string s => s | _ => ByteArray.empty
/-- the pairs from f on, below t, in order -/
def AL.range (f t : ByteArray) (l : AL) : AL := (AL.srt l).filter fun p => selB f t p.1
structure RInv (w0 : World) (c b r : Nat) (es : Array MapEntry) (f t : ByteArray) (w : World) (ks : Value) (vis : List MapEntry) : Prop where
  iter : w.heap[r]? = some (.mapIter (some b) c (vis.map (·.born)).toArray c)
  sub : ∀ e ∈ vis, e ∈ es.toList
  nd : (vis.map (·.born)).Nodup
  row : SR w w0.heap.size ks ((vis.map keyOf').filter (selB f t))
  keep : Below w0.heap.size w0 w
theorem RInv.len {w0 : World} {c b r : Nat} {es : Array MapEntry} {f t : ByteArray} {w : World} {ks : Value} {vis : List MapEntry} (h : RInv w0 c b r es f t w ks vis) (hnd : (es.toList.map (·.born)).Nodup) : vis.length ≤ es.toList.length := by
  have h1 : (vis.map (·.born)).length ≤ (es.toList.map (·.born)).length := by
    refine List.Nodup.length_le_of_subset h.nd ?_
    intro x hx
    obtain ⟨e, he, rfl⟩ := List.mem_map.1 hx
    exact List.mem_map.2 ⟨e, h.sub e he, rfl⟩
  simpa using h1
/-- behind the loop: the keys that were collected are the wanted ones of the map's -/
theorem vis_perm {es vis : List MapEntry} (hnd : (es.map (·.born)).Nodup) (hsub : ∀ e ∈ vis, e ∈ es) (hv : (vis.map (·.born)).Nodup) (hall : ∀ e ∈ es, e.born ∈ vis.map (·.born)) : vis.Perm es := by
  have e1 : vis.Nodup := (List.pairwise_map.1 hv).imp (fun {p q} h e => h (by rw [e]))
  have e2 : es.Nodup := (List.pairwise_map.1 hnd).imp (fun {p q} h e => h (by rw [e]))
  refine (List.perm_ext_iff_of_nodup e1 e2).2 fun e => ⟨hsub e, fun he => ?_⟩
  obtain ⟨e', h1, h2⟩ := List.mem_map.1 (hall e he)
  have : e' = e := by
    have key : ∀ (l : List MapEntry), (l.map (·.born)).Nodup → ∀ x ∈ l, ∀ y ∈ l, x.born = y.born → x = y := by
      intro l
      induction l with
      | nil => intro _ x hx; simp at hx
      | cons a l ih =>
        intro hn x hx y hy hxy
        obtain ⟨n1, n2⟩ := List.nodup_cons.1 (show (a.born :: l.map (·.born)).Nodup from hn)
        rcases List.mem_cons.1 hx with rfl | hx' <;> rcases List.mem_cons.1 hy with rfl | hy'
        · rfl
        · exact absurd (List.mem_map.2 ⟨y, hy', hxy.symm⟩) n1
        · exact absurd (show y.born ∈ l.map (·.born) from List.mem_map.2 ⟨x, hx', hxy⟩) n1
        · exact ih n2 x hx' y hy' hxy
    exact key es hnd e' (hsub e' h1) e he h2
  rw [← this]; exact h1
theorem keys_kvs : ∀ {es : List MapEntry} {l : AL}, KVs es l → es.map keyOf' = AL.keys l
  | [], l, h => by
    have : l = [] := by unfold KVs at h; simpa using h.symm
    subst this; rfl
  | e :: es, l, h => by
    obtain ⟨p, r, rfl, h1, h2, h3⟩ := h.cons
    simp only [List.map_cons, AL.keys, keyOf', h1]
    exact congrArg (p.1 :: ·) (keys_kvs h3)
theorem mk_data (s : ByteArray) : (⟨s.data.toList.toArray⟩ : ByteArray) = s := by cases s; simp
/-- sorting the wanted keys and looking each up is the range -/
theorem range_eq {l : AL} (h : AL.ND l) (f t : ByteArray) {ks : List ByteArray} (hp : ks.Perm ((AL.keys l).filter (selB f t))) :
    (sortS ks).map (fun k => (k, (AL.get k l).getD ByteArray.empty)) = AL.range f t l := by
  have hn : ((AL.keys l).filter (selB f t)).Nodup := h.sublist (List.filter_sublist)
  have hks : ks.Nodup := hp.nodup_iff.2 hn
  have hsp : (sortS ks).Perm ks := by
    unfold sortS
    have h1 := (List.mergeSort_perm (ks.map (·.data.toList)) fun x y => decide (x ≤ y)).map fun l => (⟨l.toArray⟩ : ByteArray)
    refine h1.trans ?_
    rw [List.map_map]
    have : ks.map ((fun l => (⟨l.toArray⟩ : ByteArray)) ∘ fun x => x.data.toList) = ks := by
      conv => rhs; rw [← List.map_id ks]
      exact List.map_congr_left (fun x _ => mk_data x)
    rw [this]
  have hst : (sortS ks).Pairwise fun a b => slt a b = true := by
    have h1 : ((ks.map (·.data.toList)).mergeSort fun x y => decide (x ≤ y)).Pairwise fun x y => decide (x ≤ y) = true :=
      List.pairwise_mergeSort (fun a b c hab hbc => by simp only [decide_eq_true_eq] at *; exact List.le_trans hab hbc) (fun a b => by simp only [Bool.or_eq_true, decide_eq_true_eq]; exact List.le_total _ _) _
    have h2 : (sortS ks).Pairwise fun a b => decide (a.toList ≤ b.toList) = true := by
      unfold sortS
      rw [List.pairwise_map]
      refine h1.imp (fun {a b} hab => ?_)
      rw [toList_data, toList_data]
      simpa using hab
    have h3 : (sortS ks).Nodup := hsp.nodup_iff.2 hks
    refine (h2.and h3).imp (fun {a b} ⟨x, y⟩ => ?_)
    rw [bl_le] at x
    cases hs : slt a b
    · exact absurd (slt_total hs (by simpa [slt] using x)) y
    · rfl
  refine eq_of_perm_strict plt plt_asymm _ _ ?_ ?_ ((srt_strict h).sublist List.filter_sublist)
  · have hmap : ((sortS ks).map (fun k => (k, (AL.get k l).getD ByteArray.empty))).Nodup := by
      refine List.pairwise_map.2 ((hsp.nodup_iff.2 hks).imp (fun {a b} hab e => hab ?_))
      exact (Prod.mk.inj e).1
    have hfn : (AL.range f t l).Nodup := (((srt_perm l).nodup_iff.2 (nd_nodup h))).sublist List.filter_sublist
    refine (List.perm_ext_iff_of_nodup hmap hfn).2 fun q => ?_
    rw [List.mem_map]
    constructor
    · rintro ⟨k, hk, rfl⟩
      have hk' := hp.subset (hsp.subset hk)
      rw [List.mem_filter] at hk'
      obtain ⟨p, hpl, hpk⟩ := List.mem_map.1 hk'.1
      have hg : AL.get k l = some p.2 := (get_some h).2 (by rw [← hpk]; exact hpl)
      unfold AL.range
      rw [List.mem_filter]
      refine ⟨(srt_perm l).symm.subset ?_, hk'.2⟩
      rw [hg, ← hpk]; exact hpl
    · intro hq
      unfold AL.range at hq
      rw [List.mem_filter] at hq
      have hql := (srt_perm l).subset hq.1
      refine ⟨q.1, hsp.symm.subset (hp.symm.subset (List.mem_filter.2 ⟨List.mem_map.2 ⟨q, hql, rfl⟩, hq.2⟩)), ?_⟩
      rw [(get_some h).2 (show (q.1, q.2) ∈ l from hql)]
      rfl
  · rw [List.pairwise_map]
    exact hst
end Go.Proofs.YtidppalhjknlfaaDoor
