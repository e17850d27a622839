/- Leases in a store's pairs, in plain words. No walk here. -/
import Derived.Test.YtidppalhjknlfaaDoorQRdp
import Derived.Test.YtidppalhjknlfaaDoorQMOrd2
namespace Go.Proofs.YtidppalhjknlfaaDoor
open Go.RowKit
set_option linter.unusedVariables false
set_option linter.unusedSimpArgs false
/-- of 32 bits -/
def U32 (n : Int) : Prop := 0 ≤ n ∧ n ≤ 4294967295
def lp (t : Int) : ByteArray := keyS 108 [t]
def lk (t i : Int) : ByteArray := keyS 108 [t, i]
def mk (t : Int) : ByteArray := keyS 109 [t]
theorem lp_list (t : Int) : (lp t).data.toList = [108] ++ (be8 t).data.toList := by
  unfold lp
  rw [show keyS 108 [t] = keyS 108 [] ++ be8 t from keyS_snoc 108 [] t, append_list]; rfl
theorem lk_eq (t i : Int) : lk t i = lp t ++ be8 i := keyS_snoc 108 [t] i
theorem lk_list (t i : Int) : (lk t i).data.toList = [108] ++ ((be8 t).data.toList ++ (be8 i).data.toList) := by
  rw [lk_eq, append_list, lp_list, List.append_assoc]
theorem mk_list (t : Int) : (mk t).data.toList = [109] ++ (be8 t).data.toList := by
  unfold mk
  rw [show keyS 109 [t] = keyS 109 [] ++ be8 t from keyS_snoc 109 [] t, append_list]; rfl
theorem lp_size (t : Int) : (lp t).size = 9 := keyS_size _ _
theorem lk_size (t i : Int) : (lk t i).size = 17 := keyS_size _ _
theorem mk_size (t : Int) : (mk t).size = 9 := keyS_size _ _
theorem be8_inj {x y : Int} (hx : U32 x) (hy : U32 y) (h : (be8 x).data.toList = (be8 y).data.toList) : x = y := by
  have vx := valN_be8 x hx.1 (by have := hx.2; omega)
  have vy := valN_be8 y hy.1 (by have := hy.2; omega)
  rw [h] at vx; omega
theorem lk_inj {t i t' i' : Int} (ht : U32 t) (hi : U32 i) (ht' : U32 t') (hi' : U32 i') (h : lk t i = lk t' i') : t = t' ∧ i = i' := by
  have e : (lk t i).data.toList = (lk t' i').data.toList := by rw [h]
  rw [lk_list, lk_list, List.append_cancel_left_eq] at e
  have := List.append_inj e (by rw [be8_len, be8_len])
  exact ⟨be8_inj ht ht' this.1, be8_inj hi hi' this.2⟩
theorem mk_inj {t t' : Int} (ht : U32 t) (ht' : U32 t') (h : mk t = mk t') : t = t' := by
  have e : (mk t).data.toList = (mk t').data.toList := by rw [h]
  rw [mk_list, mk_list, List.append_cancel_left_eq] at e
  exact be8_inj ht ht' e
theorem mk_lk {t t' i : Int} : mk t ≠ lk t' i := fun h => by
  have := congrArg ByteArray.size h
  rw [mk_size, lk_size] at this
  omega
theorem pre_lk (t i : Int) : pre (lp t) (lk t i) = true := by rw [lk_eq]; exact pre_append _ _
theorem pre_lk_inj {t t' i : Int} (ht : U32 t) (ht' : U32 t') (h : pre (lp t) (lk t' i) = true) : t = t' := by
  unfold pre at h
  rw [List.isPrefixOf_iff_prefix, lp_list, lk_list, List.prefix_append_right_inj] at h
  have h2 : (be8 t).data.toList <+: (be8 t').data.toList ++ (be8 i).data.toList := h
  have h3 : (be8 t').data.toList <+: (be8 t').data.toList ++ (be8 i).data.toList := List.prefix_append _ _
  have h4 := List.prefix_of_prefix_length_le h2 h3 (by rw [be8_len, be8_len]; omega)
  exact be8_inj ht ht' (h4.eq_of_length (by rw [be8_len, be8_len]))
theorem pre_mk (t t' : Int) : pre (lp t) (mk t') = false := by
  unfold pre
  rw [lp_list, mk_list]
  rfl
theorem lk_lt {t i j : Int} (hi : U32 i) (hj : U32 j) (h : i < j) : slt (lk t i) (lk t j) = true := by
  unfold slt
  rw [toList_data, toList_data, lk_list, lk_list, bl_append _ _ _ _ rfl, bl_irrefl, Bool.false_or, bl_append _ _ _ _ rfl, bl_irrefl, Bool.false_or, bl_val _ _ (by rw [be8_len, be8_len])]
  have vx := valN_be8 i hi.1 (by have := hi.2; omega)
  have vy := valN_be8 j hj.1 (by have := hj.2; omega)
  simp
  omega
/-! ### one store, one tenant -/
structure LS (now : AL) (t : Int) (L : List Ls) (last : Int) : Prop where
  at_ : ∀ l ∈ L, (lk t l.id, l.enc) ∈ now
  all : ∀ q ∈ now, pre (lp t) q.1 = true → ∃ l ∈ L, q = (lk t l.id, l.enc)
  num : AL.get (mk t) now = if last = 0 then none else some (be8 last)
  ok : ∀ l ∈ L, l.Ok ∧ 1 ≤ l.id ∧ l.id ≤ last
  up : L.Pairwise fun a b => a.id < b.id
  lst : 0 ≤ last
theorem LS.nil (t : Int) : LS [] t [] 0 := ⟨by simp, by simp, rfl, by simp, List.Pairwise.nil, by decide⟩
def prs (t : Int) (L : List Ls) : AL := L.map fun l => (lk t l.id, l.enc)
theorem LS.scan {now : AL} {t : Int} {L : List Ls} {last : Int} (hn : AL.ND now) (h : LS now t L last) : AL.scan (lp t) now = prs t L := by
  have hs : (prs t L).Pairwise plt := by
    unfold prs
    rw [List.pairwise_map]
    refine List.Pairwise.imp_of_mem (fun {a b} ha hb hab => ?_) h.up
    exact lk_lt (h.ok a ha).1.id (h.ok b hb).1.id hab
  have hs2 : (AL.scan (lp t) now).Pairwise plt := (srt_strict hn).sublist List.filter_sublist
  refine eq_of_perm_strict plt plt_asymm _ _ ?_ hs2 hs
  refine (List.perm_ext_iff_of_nodup (strict_nodup hs2) (strict_nodup hs)).2 fun q => ?_
  unfold AL.scan prs
  rw [List.mem_filter, (srt_perm now).mem_iff, List.mem_map]
  constructor
  · rintro ⟨h1, h2⟩
    obtain ⟨l, hl, rfl⟩ := h.all q h1 h2
    exact ⟨l, hl, rfl⟩
  · rintro ⟨l, hl, rfl⟩
    exact ⟨h.at_ l hl, pre_lk _ _⟩
theorem get_ext {k : ByteArray} {l l' : AL} (hn : AL.ND l) (hn' : AL.ND l') (h : ∀ v, (k, v) ∈ l ↔ (k, v) ∈ l') : AL.get k l = AL.get k l' := by
  apply Option.ext
  intro v
  rw [get_some hn, get_some hn', h]
theorem get_put {k k' v : ByteArray} {l : AL} (hn : AL.ND l) : AL.get k (AL.put k' v l) = if k = k' then some v else AL.get k l := by
  by_cases he : k = k'
  · subst he
    rw [if_pos rfl, get_some (nd_put hn), mem_put hn]
    exact .inl rfl
  · rw [if_neg he]
    refine get_ext (nd_put hn) hn fun u => ?_
    rw [mem_put hn]
    constructor
    · rintro (h | h)
      · cases h; exact absurd rfl he
      · exact h.1
    · exact fun h => .inr ⟨h, he⟩
theorem get_del {k k' : ByteArray} {l : AL} (hn : AL.ND l) : AL.get k (AL.del k' l) = if k = k' then none else AL.get k l := by
  by_cases he : k = k'
  · subst he
    rw [if_pos rfl, get_none]
    intro h
    obtain ⟨q, hq, e⟩ := List.mem_map.1 h
    exact ((mem_del hn).1 hq).2 e
  · rw [if_neg he]
    refine get_ext (nd_del hn) hn fun u => ?_
    rw [mem_del hn]
    exact ⟨fun h => h.1, fun h => ⟨h, he⟩⟩
theorem LS.get {now : AL} {t : Int} {L : List Ls} {last : Int} (hn : AL.ND now) (h : LS now t L last) (ht : U32 t) {i : Int} (hi : U32 i) : (AL.get (lk t i) now).isSome = L.any fun l => decide (l.id = i) := by
  cases hg : AL.get (lk t i) now with
  | some v =>
    obtain ⟨l, hl, e⟩ := h.all _ ((get_some hn).1 hg) (pre_lk _ _)
    have := (lk_inj ht hi ht (h.ok l hl).1.id (Prod.mk.inj e).1).2
    symm
    rw [Option.isSome_some, List.any_eq_true]
    exact ⟨l, hl, decide_eq_true this.symm⟩
  | none =>
    symm
    rw [Option.isSome_none, List.any_eq_false]
    intro l hl e
    have e := of_decide_eq_true e
    subst e
    have := (get_some hn).2 (h.at_ l hl)
    rw [hg] at this
    cases this
/-- a lease is taken away -/
theorem LS.del {now : AL} {t : Int} {L : List Ls} {last : Int} (hn : AL.ND now) (h : LS now t L last) (ht : U32 t) {i : Int} (hi : U32 i) : LS (AL.del (lk t i) now) t (L.filter fun l => decide (l.id ≠ i)) last := by
  refine ⟨fun l hl => ?_, fun q hq hp => ?_, ?_, fun l hl => h.ok l (List.mem_filter.1 hl).1, h.up.sublist List.filter_sublist, h.lst⟩
  · obtain ⟨h1, h2⟩ := List.mem_filter.1 hl
    exact (mem_del hn).2 ⟨h.at_ l h1, fun e => (of_decide_eq_true h2) (lk_inj ht (h.ok l h1).1.id ht hi e).2⟩
  · obtain ⟨h1, h2⟩ := (mem_del hn).1 hq
    obtain ⟨l, hl, rfl⟩ := h.all q h1 hp
    exact ⟨l, List.mem_filter.2 ⟨hl, decide_eq_true fun e => h2 (by rw [e])⟩, rfl⟩
  · rw [get_del hn, if_neg mk_lk, h.num]
/-- another tenant's is -/
theorem LS.del_other {now : AL} {t u : Int} {L : List Ls} {last : Int} (hn : AL.ND now) (h : LS now t L last) (ht : U32 t) (hu : U32 u) (hne : u ≠ t) {i : Int} (hi : U32 i) : LS (AL.del (lk u i) now) t L last := by
  refine ⟨fun l hl => ?_, fun q hq hp => h.all q ((mem_del hn).1 hq).1 hp, ?_, h.ok, h.up, h.lst⟩
  · exact (mem_del hn).2 ⟨h.at_ l hl, fun e => hne (lk_inj ht (h.ok l hl).1.id hu hi e).1.symm⟩
  · rw [get_del hn, if_neg mk_lk, h.num]
theorem put_lk (now : AL) (t i : Int) (v : ByteArray) (hv : v.size ≤ 1024) : putE (-1) now (lk t i) v = 0 ∧ putA (-1) now (lk t i) v = AL.put (lk t i) v now := by
  have e : putE (-1) now (lk t i) v = 0 := by
    unfold putE
    rw [if_neg (by rw [lk_size]; omega), if_neg (by rw [lk_size]; omega), if_neg (by omega)]
  exact ⟨e, by unfold putA; rw [if_pos e]⟩
theorem put_mk (now : AL) (t : Int) (n : Int) (hn : 0 < n) : setE (-1) now (mk t) n = 0 ∧ setA (-1) now (mk t) n = AL.put (mk t) (be8 n) now := by
  have h8 : (be8 n).size = 8 := be_size n 8
  have e : putE (-1) now (mk t) (be8 n) = 0 := by
    unfold putE
    rw [if_neg (by rw [mk_size]; omega), if_neg (by rw [mk_size, h8]; omega), if_neg (by omega)]
  unfold setE setA
  rw [if_neg (by omega), if_neg (by omega)]
  exact ⟨e, by unfold putA; rw [if_pos e]⟩
/-- a lease is kept under the next number -/
def addA (now : AL) (t : Int) (l : Ls) : AL := AL.put (mk t) (be8 l.id) (AL.put (lk t l.id) l.enc now)
theorem addA_nd {now : AL} (hn : AL.ND now) (t : Int) (l : Ls) : AL.ND (addA now t l) := nd_put (nd_put hn)
theorem LS.add {now : AL} {t : Int} {L : List Ls} {last : Int} (hn : AL.ND now) (h : LS now t L last) (ht : U32 t) (l : Ls) (hl : l.Ok) (hi : l.id = last + 1) : LS (addA now t l) t (L ++ [l]) (last + 1) := by
  have hn1 : AL.ND (AL.put (lk t l.id) l.enc now) := nd_put hn
  have h0 := h.lst
  refine ⟨fun x hx => ?_, fun q hq hp => ?_, ?_, fun x hx => ?_, ?_, by omega⟩
  · refine (mem_put hn1).2 (.inr ⟨?_, fun e => mk_lk e.symm⟩)
    rcases List.mem_append.1 hx with hx | hx
    · refine (mem_put hn).2 (.inr ⟨h.at_ x hx, fun e => ?_⟩)
      have := (lk_inj ht (h.ok x hx).1.id ht hl.id e).2
      have := (h.ok x hx).2.2
      omega
    · obtain rfl := List.mem_singleton.1 hx
      exact (mem_put hn).2 (.inl rfl)
  · rcases (mem_put hn1).1 hq with rfl | ⟨hq, _⟩
    · rw [pre_mk] at hp; cases hp
    · rcases (mem_put hn).1 hq with rfl | ⟨hq, _⟩
      · exact ⟨l, by simp, rfl⟩
      · obtain ⟨x, hx, e⟩ := h.all q hq hp
        exact ⟨x, by simp [hx], e⟩
  · unfold addA
    rw [get_put hn1, if_pos rfl, if_neg (by omega), hi]
  · rcases List.mem_append.1 hx with hx | hx
    · have := h.ok x hx
      exact ⟨this.1, this.2.1, by omega⟩
    · obtain rfl := List.mem_singleton.1 hx
      exact ⟨hl, by omega, by omega⟩
  · refine List.pairwise_append.2 ⟨h.up, List.pairwise_singleton _ _, fun a ha b hb => ?_⟩
    obtain rfl := List.mem_singleton.1 hb
    have := (h.ok a ha).2.2
    omega
theorem LS.add_other {now : AL} {t u : Int} {L : List Ls} {last : Int} (hn : AL.ND now) (h : LS now t L last) (ht : U32 t) (hu : U32 u) (hne : u ≠ t) (l : Ls) (hl : l.Ok) : LS (addA now u l) t L last := by
  have hn1 : AL.ND (AL.put (lk u l.id) l.enc now) := nd_put hn
  refine ⟨fun x hx => ?_, fun q hq hp => ?_, ?_, h.ok, h.up, h.lst⟩
  · refine (mem_put hn1).2 (.inr ⟨(mem_put hn).2 (.inr ⟨h.at_ x hx, fun e => ?_⟩), fun e => mk_lk e.symm⟩)
    exact hne (lk_inj ht (h.ok x hx).1.id hu hl.id e).1.symm
  · rcases (mem_put hn1).1 hq with rfl | ⟨hq, _⟩
    · rw [pre_mk] at hp; cases hp
    · rcases (mem_put hn).1 hq with rfl | ⟨hq, _⟩
      · exact absurd (pre_lk_inj ht hu hp).symm hne
      · exact h.all q hq hp
  · unfold addA
    rw [get_put hn1, if_neg (fun e => hne (mk_inj ht hu e).symm), get_put hn, if_neg mk_lk, h.num]
/-! ### what a tenant has, and what it is asked -/
def live (now : Int) (L : List Ls) : List Ls := L.filter fun l => decide (now < l.exp)
def gone (now : Int) (L : List Ls) : List Ls := L.filter fun l => decide (l.exp ≤ now)
/-- may it be added? -/
def mayAdd (l : Ls) (now : Int) : Prop := 1 ≤ l.units ∧ l.units ≤ 1099511627776 ∧ now < l.exp ∧ l.exp ≤ 137438953472 ∧ wrap64 (l.exp - 86400) ≤ now
instance (l : Ls) (now : Int) : Decidable (mayAdd l now) := by unfold mayAdd; infer_instance
def addE (L : List Ls) (l : Ls) (now : Int) : Int := if ¬ mayAdd l now then 1 else if 8 ≤ (live now L).length then 3 else 0
def addI (L : List Ls) (last : Int) (l : Ls) (now : Int) : Int := if addE L l now = 0 then last + 1 else 0
def addL (L : List Ls) (last : Int) (l : Ls) (now : Int) : List Ls := if addE L l now = 0 then live now L ++ [{ l with id := last + 1 }] else L
def addN (L : List Ls) (last : Int) (l : Ls) (now : Int) : Int := if addE L l now = 0 then last + 1 else last
def dropE (L : List Ls) (i : Int) : Int := if L.any (fun l => decide (l.id = i)) = true then 0 else 44
def dropL (L : List Ls) (i : Int) : List Ls := L.filter fun l => decide (l.id ≠ i)
def getR (L : List Ls) (i now : Int) : Option Ls := (live now L).find? fun l => decide (l.id = i)
def heldD (L : List Ls) (day : Int) : Int := L.foldl (fun s l => if l.day = day then wrap64 (s + l.units) else s) 0
def heldM (L : List Ls) (month : Int) : Int := L.foldl (fun s l => if l.month = month then wrap64 (s + l.units) else s) 0
/-- the leases that are gone are taken away, one by one -/
def dels (now : AL) (t : Int) (G : List Ls) : AL := G.foldl (fun n l => AL.del (lk t l.id) n) now
theorem dels_nd {now : AL} (t : Int) : ∀ (G : List Ls), AL.ND now → AL.ND (dels now t G)
  | [], h => h
  | g :: G, h => dels_nd (now := AL.del (lk t g.id) now) t G (nd_del h)
theorem LS.dels {t : Int} {last : Int} (ht : U32 t) : ∀ (G : List Ls) {now : AL} {L : List Ls}, AL.ND now → LS now t L last → (∀ g ∈ G, U32 g.id) → LS (dels now t G) t (L.filter fun l => G.all fun g => decide (l.id ≠ g.id)) last
  | [], now, L, hn, h, _ => by
    have : (L.filter fun l => ([] : List Ls).all fun g => decide (l.id ≠ g.id)) = L := List.filter_eq_self.2 (by simp)
    rw [this]; exact h
  | g :: G, now, L, hn, h, hg => by
    have h1 := h.del hn ht (hg g List.mem_cons_self)
    have h2 := LS.dels ht G (nd_del hn) h1 (fun x hx => hg x (List.mem_cons_of_mem _ hx))
    rw [List.filter_filter] at h2
    have e : (L.filter fun l => (g :: G).all fun g => decide (l.id ≠ g.id)) = L.filter fun a => (G.all fun g => decide (a.id ≠ g.id)) && decide (a.id ≠ g.id) :=
      List.filter_congr fun l _ => by rw [List.all_cons, Bool.and_comm]
    rw [e]; exact h2
theorem LS.dels_other {t u : Int} {last : Int} (ht : U32 t) (hu : U32 u) (hne : u ≠ t) : ∀ (G : List Ls) {now : AL} {L : List Ls}, AL.ND now → LS now t L last → (∀ g ∈ G, U32 g.id) → LS (Go.Proofs.YtidppalhjknlfaaDoor.dels now u G) t L last
  | [], now, L, hn, h, _ => h
  | g :: G, now, L, hn, h, hg => LS.dels_other ht hu hne G (nd_del hn) (h.del_other hn ht hu hne (hg g List.mem_cons_self)) (fun x hx => hg x (List.mem_cons_of_mem _ hx))
theorem up_inj {L : List Ls} (h : L.Pairwise fun a b => a.id < b.id) {a b : Ls} (ha : a ∈ L) (hb : b ∈ L) (e : a.id = b.id) : a = b := by
  obtain ⟨i, hi, rfl⟩ := List.mem_iff_getElem.1 ha
  obtain ⟨j, hj, rfl⟩ := List.mem_iff_getElem.1 hb
  rw [List.pairwise_iff_getElem] at h
  rcases Nat.lt_trichotomy i j with hij | hij | hij
  · have := h i j hi hj hij; omega
  · subst hij; rfl
  · have := h j i hj hi hij; omega
/-- behind that the living are left -/
theorem LS.swept {now : AL} {t : Int} {L : List Ls} {last : Int} (hn : AL.ND now) (h : LS now t L last) (ht : U32 t) (at_ : Int) : LS (Go.Proofs.YtidppalhjknlfaaDoor.dels now t (gone at_ L)) t (live at_ L) last := by
  have := LS.dels ht (gone at_ L) hn h (fun g hg => (h.ok g (List.mem_filter.1 hg).1).1.id)
  have e : (L.filter fun l => (gone at_ L).all fun g => decide (l.id ≠ g.id)) = live at_ L := by
    unfold live
    refine List.filter_congr fun l hl => ?_
    rw [Bool.eq_iff_iff, List.all_eq_true, decide_eq_true_eq]
    constructor
    · intro hh
      by_cases hx : at_ < l.exp
      · exact hx
      · exact absurd rfl (of_decide_eq_true (hh l (List.mem_filter.2 ⟨hl, decide_eq_true (by omega)⟩)))
    · intro hx g hg
      obtain ⟨h1, h2⟩ := List.mem_filter.1 hg
      refine decide_eq_true fun e => ?_
      have := up_inj h.up hl h1 e
      subst this
      have := of_decide_eq_true h2
      omega
  rw [e] at this
  exact this
/-- what Add leaves in the store -/
def addS (now : AL) (t : Int) (L : List Ls) (last : Int) (l : Ls) (at_ : Int) : AL := if addE L l at_ = 0 then addA (dels now t (gone at_ L)) t { l with id := last + 1 } else now
theorem addS_nd {now : AL} (hn : AL.ND now) (t : Int) (L : List Ls) (last : Int) (l : Ls) (at_ : Int) : AL.ND (addS now t L last l at_) := by
  unfold addS
  split
  · exact addA_nd (dels_nd _ _ hn) _ _
  · exact hn
theorem LS.addS {now : AL} {t : Int} {L : List Ls} {last : Int} (hn : AL.ND now) (h : LS now t L last) (ht : U32 t) (l : Ls) (hl : l.Ok) (hi : last + 1 ≤ 4294967295) (at_ : Int) : LS (addS now t L last l at_) t (addL L last l at_) (addN L last l at_) := by
  unfold Go.Proofs.YtidppalhjknlfaaDoor.addS addL addN
  by_cases he : addE L l at_ = 0
  · rw [if_pos he, if_pos he, if_pos he]
    have h0 := h.lst
    exact (h.swept hn ht at_).add (dels_nd _ _ hn) ht _ ⟨⟨by show 0 ≤ last + 1; omega, hi⟩, hl.units, hl.exp, hl.day, hl.month⟩ rfl
  · rw [if_neg he, if_neg he, if_neg he]; exact h
theorem LS.addS_other {now : AL} {t u : Int} {L M : List Ls} {last lastu : Int} (hn : AL.ND now) (h : LS now t L last) (hu' : LS now u M lastu) (ht : U32 t) (hu : U32 u) (hne : u ≠ t) (l : Ls) (hl : l.Ok) (hi : lastu + 1 ≤ 4294967295) (at_ : Int) : LS (Go.Proofs.YtidppalhjknlfaaDoor.addS now u M lastu l at_) t L last := by
  unfold Go.Proofs.YtidppalhjknlfaaDoor.addS
  by_cases he : addE M l at_ = 0
  · rw [if_pos he]
    have h0 := hu'.lst
    exact (h.dels_other ht hu hne _ hn (fun g hg => (hu'.ok g (List.mem_filter.1 hg).1).1.id)).add_other (dels_nd _ _ hn) ht hu hne _ ⟨⟨by show 0 ≤ lastu + 1; omega, hi⟩, hl.units, hl.exp, hl.day, hl.month⟩
  · rw [if_neg he]; exact h
theorem dels_len (t : Int) : ∀ (G : List Ls) (now : AL), (dels now t G).length ≤ now.length
  | [], now => Nat.le_refl _
  | g :: G, now => Nat.le_trans (dels_len t G _) (del_sublist _ _).length_le
theorem St.dels {m : Nat} (t : Int) : ∀ (G : List Ls) {now : AL}, St m now → St m (Go.Proofs.YtidppalhjknlfaaDoor.dels now t G)
  | [], now, h => h
  | g :: G, now, h => St.dels t G (h.del _)
theorem St.put {m : Nat} {now : AL} (h : St m now) {k v : ByteArray} (hk : k.size ≤ 256) (hv : v.size ≤ 1024) : St (m + 1) (AL.put k v now) :=
  ⟨nd_put h.nd, Nat.le_trans (put_length _ _ _) (by have := h.len; omega), fun p hp => by
    rcases (mem_put h.nd).1 hp with rfl | ⟨hp, _⟩
    · exact ⟨hk, hv⟩
    · exact h.small p hp⟩
theorem St.addA {m : Nat} {now : AL} (h : St m now) (t : Int) (l : Ls) : St (m + 2) (Go.Proofs.YtidppalhjknlfaaDoor.addA now t l) := by
  unfold Go.Proofs.YtidppalhjknlfaaDoor.addA
  exact (h.put (by rw [lk_size]; omega) (by rw [Ls.enc_size]; omega)).put (by rw [mk_size]; omega) (by rw [show (be8 l.id).size = 8 from be_size _ 8]; omega)
theorem St.addS {m : Nat} {now : AL} (h : St m now) (t : Int) (L : List Ls) (last : Int) (l : Ls) (at_ : Int) : St (m + 2) (Go.Proofs.YtidppalhjknlfaaDoor.addS now t L last l at_) := by
  unfold Go.Proofs.YtidppalhjknlfaaDoor.addS
  split
  · exact (h.dels _ _).addA _ _
  · exact h.mono (by omega)
theorem addL_len {L : List Ls} {last : Int} {l : Ls} {at_ : Int} (h : L.length ≤ 8) : (addL L last l at_).length ≤ 8 := by
  unfold addL
  split
  · rename_i he
    have : (live at_ L).length < 8 := by
      unfold addE at he
      split at he
      · cases he
      · split at he
        · cases he
        · omega
    rw [List.length_append, List.length_singleton]; omega
  · exact h
end Go.Proofs.YtidppalhjknlfaaDoor
