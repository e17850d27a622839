/- Leases in a store's pairs, in plain words. No walk here. Plans: the numbers of a plan, one after another. plan.Check. -/
import Derived.Test.YtidppalhjknlfaaGreatDoorQMOrd3
import Derived.Test.YtidppalhjknlfaaGreatDoorQMMake
import Derived.Test.YtidppalhjknlfaaGreatDoorQPl
import Derived.Deep.DeepCutAuto
import Derived.RangeFuncCalls
import Derived.RangeFuncBound
import Derived.Shelf.RegionOpen
namespace Go.Proofs.YtidppalhjknlfaaGreatDoor
open Go.RowKit
set_option linter.unusedVariables false
set_option linter.unusedSimpArgs false
/-- of 32 bits -/
def U32 (n : Int) : Prop := 0 ≤ n ∧ n ≤ 4294967295
def lp (t : Int) : ByteArray := keyS 108 [t]
def lk (t i : Int) : ByteArray := keyS 108 [t, i]
def mk (t : Int) : ByteArray := keyS 109 [t]
theorem lp_list (t : Int) : (lp t).data.toList = [108] ++ (be8 t).data.toList := by
  unfold lp
  rw [show keyS 108 [t] = keyS 108 [] ++ be8 t from keyS_snoc 108 [] t, append_list]; rfl
theorem lk_eq (t i : Int) : lk t i = lp t ++ be8 i := keyS_snoc 108 [t] i
theorem lk_list (t i : Int) : (lk t i).data.toList = [108] ++ ((be8 t).data.toList ++ (be8 i).data.toList) := by
  rw [lk_eq, append_list, lp_list, List.append_assoc]
theorem mk_list (t : Int) : (mk t).data.toList = [109] ++ (be8 t).data.toList := by
  unfold mk
  rw [show keyS 109 [t] = keyS 109 [] ++ be8 t from keyS_snoc 109 [] t, append_list]; rfl
theorem lp_size (t : Int) : (lp t).size = 9 := keyS_size _ _
theorem lk_size (t i : Int) : (lk t i).size = 17 := keyS_size _ _
theorem mk_size (t : Int) : (mk t).size = 9 := keyS_size _ _
theorem be8_inj {x y : Int} (hx : U32 x) (hy : U32 y) (h : (be8 x).data.toList = (be8 y).data.toList) : x = y := by
  have vx := valN_be8 x hx.1 (by have := hx.2; omega)
  have vy := valN_be8 y hy.1 (by have := hy.2; omega)
  rw [h] at vx; omega
theorem lk_inj {t i t' i' : Int} (ht : U32 t) (hi : U32 i) (ht' : U32 t') (hi' : U32 i') (h : lk t i = lk t' i') : t = t' ∧ i = i' := by
  have e : (lk t i).data.toList = (lk t' i').data.toList := by rw [h]
  rw [lk_list, lk_list, List.append_cancel_left_eq] at e
  have := List.append_inj e (by rw [be8_len, be8_len])
  exact ⟨be8_inj ht ht' this.1, be8_inj hi hi' this.2⟩
theorem mk_inj {t t' : Int} (ht : U32 t) (ht' : U32 t') (h : mk t = mk t') : t = t' := by
  have e : (mk t).data.toList = (mk t').data.toList := by rw [h]
  rw [mk_list, mk_list, List.append_cancel_left_eq] at e
  exact be8_inj ht ht' e
theorem mk_lk {t t' i : Int} : mk t ≠ lk t' i := fun h => by
  have := congrArg ByteArray.size h
  rw [mk_size, lk_size] at this
  omega
theorem pre_lk (t i : Int) : pre (lp t) (lk t i) = true := by rw [lk_eq]; exact pre_append _ _
theorem pre_lk_inj {t t' i : Int} (ht : U32 t) (ht' : U32 t') (h : pre (lp t) (lk t' i) = true) : t = t' := by
  unfold pre at h
  rw [List.isPrefixOf_iff_prefix, lp_list, lk_list, List.prefix_append_right_inj] at h
  have h2 : (be8 t).data.toList <+: (be8 t').data.toList ++ (be8 i).data.toList := h
  have h3 : (be8 t').data.toList <+: (be8 t').data.toList ++ (be8 i).data.toList := List.prefix_append _ _
  have h4 := List.prefix_of_prefix_length_le h2 h3 (by rw [be8_len, be8_len]; omega)
  exact be8_inj ht ht' (h4.eq_of_length (by rw [be8_len, be8_len]))
theorem pre_mk (t t' : Int) : pre (lp t) (mk t') = false := by
  unfold pre
  rw [lp_list, mk_list]
  rfl
theorem lk_lt {t i j : Int} (hi : U32 i) (hj : U32 j) (h : i < j) : slt (lk t i) (lk t j) = true := by
  unfold slt
  rw [toList_data, toList_data, lk_list, lk_list, bl_append _ _ _ _ rfl, bl_irrefl, Bool.false_or, bl_append _ _ _ _ rfl, bl_irrefl, Bool.false_or, bl_val _ _ (by rw [be8_len, be8_len])]
  have vx := valN_be8 i hi.1 (by have := hi.2; omega)
  have vy := valN_be8 j hj.1 (by have := hj.2; omega)
  simp
  omega
/-! ### one store, one tenant -/
structure LS (now : AL) (t : Int) (L : List Ls) (last : Int) : Prop where
  at_ : ∀ l ∈ L, (lk t l.id, l.enc) ∈ now
  all : ∀ q ∈ now, pre (lp t) q.1 = true → ∃ l ∈ L, q = (lk t l.id, l.enc)
  num : AL.get (mk t) now = if last = 0 then none else some (be8 last)
  ok : ∀ l ∈ L, l.Ok ∧ 1 ≤ l.id ∧ l.id ≤ last
  up : L.Pairwise fun a b => a.id < b.id
  lst : 0 ≤ last
theorem LS.nil (t : Int) : LS [] t [] 0 := ⟨by simp, by simp, rfl, by simp, List.Pairwise.nil, by decide⟩
def prs (t : Int) (L : List Ls) : AL := L.map fun l => (lk t l.id, l.enc)
theorem LS.scan {now : AL} {t : Int} {L : List Ls} {last : Int} (hn : AL.ND now) (h : LS now t L last) : AL.scan (lp t) now = prs t L := by
  have hs : (prs t L).Pairwise plt := by
    unfold prs
    rw [List.pairwise_map]
    refine List.Pairwise.imp_of_mem (fun {a b} ha hb hab => ?_) h.up
    exact lk_lt (h.ok a ha).1.id (h.ok b hb).1.id hab
  have hs2 : (AL.scan (lp t) now).Pairwise plt := (srt_strict hn).sublist List.filter_sublist
  refine eq_of_perm_strict plt plt_asymm _ _ ?_ hs2 hs
  refine (List.perm_ext_iff_of_nodup (strict_nodup hs2) (strict_nodup hs)).2 fun q => ?_
  unfold AL.scan prs
  rw [List.mem_filter, (srt_perm now).mem_iff, List.mem_map]
  constructor
  · rintro ⟨h1, h2⟩
    obtain ⟨l, hl, rfl⟩ := h.all q h1 h2
    exact ⟨l, hl, rfl⟩
  · rintro ⟨l, hl, rfl⟩
    exact ⟨h.at_ l hl, pre_lk _ _⟩
theorem get_ext {k : ByteArray} {l l' : AL} (hn : AL.ND l) (hn' : AL.ND l') (h : ∀ v, (k, v) ∈ l ↔ (k, v) ∈ l') : AL.get k l = AL.get k l' := by
  apply Option.ext
  intro v
  rw [get_some hn, get_some hn', h]
theorem get_put {k k' v : ByteArray} {l : AL} (hn : AL.ND l) : AL.get k (AL.put k' v l) = if k = k' then some v else AL.get k l := by
  by_cases he : k = k'
  · subst he
    rw [if_pos rfl, get_some (nd_put hn), mem_put hn]
    exact .inl rfl
  · rw [if_neg he]
    refine get_ext (nd_put hn) hn fun u => ?_
    rw [mem_put hn]
    constructor
    · rintro (h | h)
      · cases h; exact absurd rfl he
      · exact h.1
    · exact fun h => .inr ⟨h, he⟩
theorem get_del {k k' : ByteArray} {l : AL} (hn : AL.ND l) : AL.get k (AL.del k' l) = if k = k' then none else AL.get k l := by
  by_cases he : k = k'
  · subst he
    rw [if_pos rfl, get_none]
    intro h
    obtain ⟨q, hq, e⟩ := List.mem_map.1 h
    exact ((mem_del hn).1 hq).2 e
  · rw [if_neg he]
    refine get_ext (nd_del hn) hn fun u => ?_
    rw [mem_del hn]
    exact ⟨fun h => h.1, fun h => ⟨h, he⟩⟩
theorem LS.get {now : AL} {t : Int} {L : List Ls} {last : Int} (hn : AL.ND now) (h : LS now t L last) (ht : U32 t) {i : Int} (hi : U32 i) : (AL.get (lk t i) now).isSome = L.any fun l => decide (l.id = i) := by
  cases hg : AL.get (lk t i) now with
  | some v =>
    obtain ⟨l, hl, e⟩ := h.all _ ((get_some hn).1 hg) (pre_lk _ _)
    have := (lk_inj ht hi ht (h.ok l hl).1.id (Prod.mk.inj e).1).2
    symm
    rw [Option.isSome_some, List.any_eq_true]
    exact ⟨l, hl, decide_eq_true this.symm⟩
  | none =>
    symm
    rw [Option.isSome_none, List.any_eq_false]
    intro l hl e
    have e := of_decide_eq_true e
    subst e
    have := (get_some hn).2 (h.at_ l hl)
    rw [hg] at this
    cases this
/-- a lease is taken away -/
theorem LS.del {now : AL} {t : Int} {L : List Ls} {last : Int} (hn : AL.ND now) (h : LS now t L last) (ht : U32 t) {i : Int} (hi : U32 i) : LS (AL.del (lk t i) now) t (L.filter fun l => decide (l.id ≠ i)) last := by
  refine ⟨fun l hl => ?_, fun q hq hp => ?_, ?_, fun l hl => h.ok l (List.mem_filter.1 hl).1, h.up.sublist List.filter_sublist, h.lst⟩
  · obtain ⟨h1, h2⟩ := List.mem_filter.1 hl
    exact (mem_del hn).2 ⟨h.at_ l h1, fun e => (of_decide_eq_true h2) (lk_inj ht (h.ok l h1).1.id ht hi e).2⟩
  · obtain ⟨h1, h2⟩ := (mem_del hn).1 hq
    obtain ⟨l, hl, rfl⟩ := h.all q h1 hp
    exact ⟨l, List.mem_filter.2 ⟨hl, decide_eq_true fun e => h2 (by rw [e])⟩, rfl⟩
  · rw [get_del hn, if_neg mk_lk, h.num]
/-- another tenant's is -/
theorem LS.del_other {now : AL} {t u : Int} {L : List Ls} {last : Int} (hn : AL.ND now) (h : LS now t L last) (ht : U32 t) (hu : U32 u) (hne : u ≠ t) {i : Int} (hi : U32 i) : LS (AL.del (lk u i) now) t L last := by
  refine ⟨fun l hl => ?_, fun q hq hp => h.all q ((mem_del hn).1 hq).1 hp, ?_, h.ok, h.up, h.lst⟩
  · exact (mem_del hn).2 ⟨h.at_ l hl, fun e => hne (lk_inj ht (h.ok l hl).1.id hu hi e).1.symm⟩
  · rw [get_del hn, if_neg mk_lk, h.num]
theorem put_lk (now : AL) (t i : Int) (v : ByteArray) (hv : v.size ≤ 1024) : putE (-1) now (lk t i) v = 0 ∧ putA (-1) now (lk t i) v = AL.put (lk t i) v now := by
  have e : putE (-1) now (lk t i) v = 0 := by
    unfold putE
    rw [if_neg (by rw [lk_size]; omega), if_neg (by rw [lk_size]; omega), if_neg (by omega)]
  exact ⟨e, by unfold putA; rw [if_pos e]⟩
theorem put_mk (now : AL) (t : Int) (n : Int) (hn : 0 < n) : setE (-1) now (mk t) n = 0 ∧ setA (-1) now (mk t) n = AL.put (mk t) (be8 n) now := by
  have h8 : (be8 n).size = 8 := be_size n 8
  have e : putE (-1) now (mk t) (be8 n) = 0 := by
    unfold putE
    rw [if_neg (by rw [mk_size]; omega), if_neg (by rw [mk_size, h8]; omega), if_neg (by omega)]
  unfold setE setA
  rw [if_neg (by omega), if_neg (by omega)]
  exact ⟨e, by unfold putA; rw [if_pos e]⟩
/-- a lease is kept under the next number -/
def addA (now : AL) (t : Int) (l : Ls) : AL := AL.put (mk t) (be8 l.id) (AL.put (lk t l.id) l.enc now)
theorem addA_nd {now : AL} (hn : AL.ND now) (t : Int) (l : Ls) : AL.ND (addA now t l) := nd_put (nd_put hn)
theorem LS.add {now : AL} {t : Int} {L : List Ls} {last : Int} (hn : AL.ND now) (h : LS now t L last) (ht : U32 t) (l : Ls) (hl : l.Ok) (hi : l.id = last + 1) : LS (addA now t l) t (L ++ [l]) (last + 1) := by
  have hn1 : AL.ND (AL.put (lk t l.id) l.enc now) := nd_put hn
  have h0 := h.lst
  refine ⟨fun x hx => ?_, fun q hq hp => ?_, ?_, fun x hx => ?_, ?_, by omega⟩
  · refine (mem_put hn1).2 (.inr ⟨?_, fun e => mk_lk e.symm⟩)
    rcases List.mem_append.1 hx with hx | hx
    · refine (mem_put hn).2 (.inr ⟨h.at_ x hx, fun e => ?_⟩)
      have := (lk_inj ht (h.ok x hx).1.id ht hl.id e).2
      have := (h.ok x hx).2.2
      omega
    · obtain rfl := List.mem_singleton.1 hx
      exact (mem_put hn).2 (.inl rfl)
  · rcases (mem_put hn1).1 hq with rfl | ⟨hq, _⟩
    · rw [pre_mk] at hp; cases hp
    · rcases (mem_put hn).1 hq with rfl | ⟨hq, _⟩
      · exact ⟨l, by simp, rfl⟩
      · obtain ⟨x, hx, e⟩ := h.all q hq hp
        exact ⟨x, by simp [hx], e⟩
  · unfold addA
    rw [get_put hn1, if_pos rfl, if_neg (by omega), hi]
  · rcases List.mem_append.1 hx with hx | hx
    · have := h.ok x hx
      exact ⟨this.1, this.2.1, by omega⟩
    · obtain rfl := List.mem_singleton.1 hx
      exact ⟨hl, by omega, by omega⟩
  · refine List.pairwise_append.2 ⟨h.up, List.pairwise_singleton _ _, fun a ha b hb => ?_⟩
    obtain rfl := List.mem_singleton.1 hb
    have := (h.ok a ha).2.2
    omega
theorem LS.add_other {now : AL} {t u : Int} {L : List Ls} {last : Int} (hn : AL.ND now) (h : LS now t L last) (ht : U32 t) (hu : U32 u) (hne : u ≠ t) (l : Ls) (hl : l.Ok) : LS (addA now u l) t L last := by
  have hn1 : AL.ND (AL.put (lk u l.id) l.enc now) := nd_put hn
  refine ⟨fun x hx => ?_, fun q hq hp => ?_, ?_, h.ok, h.up, h.lst⟩
  · refine (mem_put hn1).2 (.inr ⟨(mem_put hn).2 (.inr ⟨h.at_ x hx, fun e => ?_⟩), fun e => mk_lk e.symm⟩)
    exact hne (lk_inj ht (h.ok x hx).1.id hu hl.id e).1.symm
  · rcases (mem_put hn1).1 hq with rfl | ⟨hq, _⟩
    · rw [pre_mk] at hp; cases hp
    · rcases (mem_put hn).1 hq with rfl | ⟨hq, _⟩
      · exact absurd (pre_lk_inj ht hu hp).symm hne
      · exact h.all q hq hp
  · unfold addA
    rw [get_put hn1, if_neg (fun e => hne (mk_inj ht hu e).symm), get_put hn, if_neg mk_lk, h.num]
/-! ### what a tenant has, and what it is asked -/
def live (now : Int) (L : List Ls) : List Ls := L.filter fun l => decide (now < l.exp)
def gone (now : Int) (L : List Ls) : List Ls := L.filter fun l => decide (l.exp ≤ now)
/-- may it be added? -/
def mayAdd (l : Ls) (now : Int) : Prop := 1 ≤ l.units ∧ l.units ≤ 1099511627776 ∧ now < l.exp ∧ l.exp ≤ 137438953472 ∧ wrap64 (l.exp - 86400) ≤ now
instance (l : Ls) (now : Int) : Decidable (mayAdd l now) := by unfold mayAdd; infer_instance
def addE (L : List Ls) (l : Ls) (now : Int) : Int := if ¬ mayAdd l now then 1 else if 8 ≤ (live now L).length then 3 else 0
def addI (L : List Ls) (last : Int) (l : Ls) (now : Int) : Int := if addE L l now = 0 then last + 1 else 0
def addL (L : List Ls) (last : Int) (l : Ls) (now : Int) : List Ls := if addE L l now = 0 then live now L ++ [{ l with id := last + 1 }] else L
def addN (L : List Ls) (last : Int) (l : Ls) (now : Int) : Int := if addE L l now = 0 then last + 1 else last
def dropE (L : List Ls) (i : Int) : Int := if L.any (fun l => decide (l.id = i)) = true then 0 else 44
def dropL (L : List Ls) (i : Int) : List Ls := L.filter fun l => decide (l.id ≠ i)
def getR (L : List Ls) (i now : Int) : Option Ls := (live now L).find? fun l => decide (l.id = i)
def heldD (L : List Ls) (day : Int) : Int := L.foldl (fun s l => if l.day = day then wrap64 (s + l.units) else s) 0
def heldM (L : List Ls) (month : Int) : Int := L.foldl (fun s l => if l.month = month then wrap64 (s + l.units) else s) 0
/-- the leases that are gone are taken away, one by one -/
def dels (now : AL) (t : Int) (G : List Ls) : AL := G.foldl (fun n l => AL.del (lk t l.id) n) now
theorem dels_nd {now : AL} (t : Int) : ∀ (G : List Ls), AL.ND now → AL.ND (dels now t G)
  | [], h => h
  | g :: G, h => dels_nd (now := AL.del (lk t g.id) now) t G (nd_del h)
theorem LS.dels {t : Int} {last : Int} (ht : U32 t) : ∀ (G : List Ls) {now : AL} {L : List Ls}, AL.ND now → LS now t L last → (∀ g ∈ G, U32 g.id) → LS (dels now t G) t (L.filter fun l => G.all fun g => decide (l.id ≠ g.id)) last
  | [], now, L, hn, h, _ => by
    have : (L.filter fun l => ([] : List Ls).all fun g => decide (l.id ≠ g.id)) = L := List.filter_eq_self.2 (by simp)
    rw [this]; exact h
  | g :: G, now, L, hn, h, hg => by
    have h1 := h.del hn ht (hg g List.mem_cons_self)
    have h2 := LS.dels ht G (nd_del hn) h1 (fun x hx => hg x (List.mem_cons_of_mem _ hx))
    rw [List.filter_filter] at h2
    have e : (L.filter fun l => (g :: G).all fun g => decide (l.id ≠ g.id)) = L.filter fun a => (G.all fun g => decide (a.id ≠ g.id)) && decide (a.id ≠ g.id) :=
      List.filter_congr fun l _ => by rw [List.all_cons, Bool.and_comm]
    rw [e]; exact h2
theorem LS.dels_other {t u : Int} {last : Int} (ht : U32 t) (hu : U32 u) (hne : u ≠ t) : ∀ (G : List Ls) {now : AL} {L : List Ls}, AL.ND now → LS now t L last → (∀ g ∈ G, U32 g.id) → LS (Go.Proofs.YtidppalhjknlfaaGreatDoor.dels now u G) t L last
  | [], now, L, hn, h, _ => h
  | g :: G, now, L, hn, h, hg => LS.dels_other ht hu hne G (nd_del hn) (h.del_other hn ht hu hne (hg g List.mem_cons_self)) (fun x hx => hg x (List.mem_cons_of_mem _ hx))
theorem up_inj {L : List Ls} (h : L.Pairwise fun a b => a.id < b.id) {a b : Ls} (ha : a ∈ L) (hb : b ∈ L) (e : a.id = b.id) : a = b := by
  obtain ⟨i, hi, rfl⟩ := List.mem_iff_getElem.1 ha
  obtain ⟨j, hj, rfl⟩ := List.mem_iff_getElem.1 hb
  rw [List.pairwise_iff_getElem] at h
  rcases Nat.lt_trichotomy i j with hij | hij | hij
  · have := h i j hi hj hij; omega
  · subst hij; rfl
  · have := h j i hj hi hij; omega
/-- behind that the living are left -/
theorem LS.swept {now : AL} {t : Int} {L : List Ls} {last : Int} (hn : AL.ND now) (h : LS now t L last) (ht : U32 t) (at_ : Int) : LS (Go.Proofs.YtidppalhjknlfaaGreatDoor.dels now t (gone at_ L)) t (live at_ L) last := by
  have := LS.dels ht (gone at_ L) hn h (fun g hg => (h.ok g (List.mem_filter.1 hg).1).1.id)
  have e : (L.filter fun l => (gone at_ L).all fun g => decide (l.id ≠ g.id)) = live at_ L := by
    unfold live
    refine List.filter_congr fun l hl => ?_
    rw [Bool.eq_iff_iff, List.all_eq_true, decide_eq_true_eq]
    constructor
    · intro hh
      by_cases hx : at_ < l.exp
      · exact hx
      · exact absurd rfl (of_decide_eq_true (hh l (List.mem_filter.2 ⟨hl, decide_eq_true (by omega)⟩)))
    · intro hx g hg
      obtain ⟨h1, h2⟩ := List.mem_filter.1 hg
      refine decide_eq_true fun e => ?_
      have := up_inj h.up hl h1 e
      subst this
      have := of_decide_eq_true h2
      omega
  rw [e] at this
  exact this
/-- what Add leaves in the store -/
def addS (now : AL) (t : Int) (L : List Ls) (last : Int) (l : Ls) (at_ : Int) : AL := if addE L l at_ = 0 then addA (dels now t (gone at_ L)) t { l with id := last + 1 } else now
theorem addS_nd {now : AL} (hn : AL.ND now) (t : Int) (L : List Ls) (last : Int) (l : Ls) (at_ : Int) : AL.ND (addS now t L last l at_) := by
  unfold addS
  split
  · exact addA_nd (dels_nd _ _ hn) _ _
  · exact hn
theorem LS.addS {now : AL} {t : Int} {L : List Ls} {last : Int} (hn : AL.ND now) (h : LS now t L last) (ht : U32 t) (l : Ls) (hl : l.Ok) (hi : last + 1 ≤ 4294967295) (at_ : Int) : LS (addS now t L last l at_) t (addL L last l at_) (addN L last l at_) := by
  unfold Go.Proofs.YtidppalhjknlfaaGreatDoor.addS addL addN
  by_cases he : addE L l at_ = 0
  · rw [if_pos he, if_pos he, if_pos he]
    have h0 := h.lst
    exact (h.swept hn ht at_).add (dels_nd _ _ hn) ht _ ⟨⟨by show 0 ≤ last + 1; omega, hi⟩, hl.units, hl.exp, hl.day, hl.month⟩ rfl
  · rw [if_neg he, if_neg he, if_neg he]; exact h
theorem LS.addS_other {now : AL} {t u : Int} {L M : List Ls} {last lastu : Int} (hn : AL.ND now) (h : LS now t L last) (hu' : LS now u M lastu) (ht : U32 t) (hu : U32 u) (hne : u ≠ t) (l : Ls) (hl : l.Ok) (hi : lastu + 1 ≤ 4294967295) (at_ : Int) : LS (Go.Proofs.YtidppalhjknlfaaGreatDoor.addS now u M lastu l at_) t L last := by
  unfold Go.Proofs.YtidppalhjknlfaaGreatDoor.addS
  by_cases he : addE M l at_ = 0
  · rw [if_pos he]
    have h0 := hu'.lst
    exact (h.dels_other ht hu hne _ hn (fun g hg => (hu'.ok g (List.mem_filter.1 hg).1).1.id)).add_other (dels_nd _ _ hn) ht hu hne _ ⟨⟨by show 0 ≤ lastu + 1; omega, hi⟩, hl.units, hl.exp, hl.day, hl.month⟩
  · rw [if_neg he]; exact h
theorem dels_len (t : Int) : ∀ (G : List Ls) (now : AL), (dels now t G).length ≤ now.length
  | [], now => Nat.le_refl _
  | g :: G, now => Nat.le_trans (dels_len t G _) (del_sublist _ _).length_le
theorem St.dels {m : Nat} (t : Int) : ∀ (G : List Ls) {now : AL}, St m now → St m (Go.Proofs.YtidppalhjknlfaaGreatDoor.dels now t G)
  | [], now, h => h
  | g :: G, now, h => St.dels t G (h.del _)
theorem St.put {m : Nat} {now : AL} (h : St m now) {k v : ByteArray} (hk : k.size ≤ 256) (hv : v.size ≤ 1024) : St (m + 1) (AL.put k v now) :=
  ⟨nd_put h.nd, Nat.le_trans (put_length _ _ _) (by have := h.len; omega), fun p hp => by
    rcases (mem_put h.nd).1 hp with rfl | ⟨hp, _⟩
    · exact ⟨hk, hv⟩
    · exact h.small p hp⟩
theorem St.addA {m : Nat} {now : AL} (h : St m now) (t : Int) (l : Ls) : St (m + 2) (Go.Proofs.YtidppalhjknlfaaGreatDoor.addA now t l) := by
  unfold Go.Proofs.YtidppalhjknlfaaGreatDoor.addA
  exact (h.put (by rw [lk_size]; omega) (by rw [Ls.enc_size]; omega)).put (by rw [mk_size]; omega) (by rw [show (be8 l.id).size = 8 from be_size _ 8]; omega)
theorem St.addS {m : Nat} {now : AL} (h : St m now) (t : Int) (L : List Ls) (last : Int) (l : Ls) (at_ : Int) : St (m + 2) (Go.Proofs.YtidppalhjknlfaaGreatDoor.addS now t L last l at_) := by
  unfold Go.Proofs.YtidppalhjknlfaaGreatDoor.addS
  split
  · exact (h.dels _ _).addA _ _
  · exact h.mono (by omega)
theorem addL_len {L : List Ls} {last : Int} {l : Ls} {at_ : Int} (h : L.length ≤ 8) : (addL L last l at_).length ≤ 8 := by
  unfold addL
  split
  · rename_i he
    have : (live at_ L).length < 8 := by
      unfold addE at he
      split at he
      · cases he
      · split at he
        · cases he
        · omega
    rw [List.length_append, List.length_singleton]; omega
  · exact h
end Go.Proofs.YtidppalhjknlfaaGreatDoor
namespace Go.Proofs.YtidppalhjknlfaaGreatDoor
open Go.RowKit Go.Shelf
set_option maxRecDepth 100000
set_option maxHeartbeats 1000000
set_option linter.unusedVariables false
set_option linter.unusedSimpArgs false
/-- what a round of a loop over a plan's numbers leaves: pointers -/
def KpN (W W' : World) : Prop := W.heap.size ≤ W'.heap.size ∧ ∀ (k : Nat) (c : Array Value) (e : TypeId) (z : Nat × Nat), W.heap[k]? = some (.cells c e z) → (e = 108 ∨ e = 109) → W'.heap[k]? = some (.cells c e z)
theorem KpN.trans {X Y Z : World} (h : KpN X Y) (k : KpN Y Z) : KpN X Z := ⟨Nat.le_trans h.1 k.1, fun i c e z hi he => k.2 i c e z (h.2 i c e z hi he) he⟩
theorem KpN.putObj (W : World) (l : Nat) (o o' : Obj) (h : W.heap[l]? = some o) (hc : o.isCells = false) : KpN W (W.putObj l o') := by
  have hg := grownBy_putObj' W l o'
  refine ⟨hg.size, fun k c e z hk _ => (hg.block k (Array.getElem?_eq_some_iff.1 hk).1 (fun e' => ?_)).trans hk⟩
  injection e' with e'
  subst e'
  rw [hk] at h; cases h; cases hc
theorem KpN.keep {F : Nat → Prop} {W W' : World} (h : Keep F W W') (hF : ∀ (k : Nat) (c : Array Value) (e : TypeId) (z : Nat × Nat), W.heap[k]? = some (.cells c e z) → (e = 108 ∨ e = 109) → ¬ F k) : KpN W W' :=
  ⟨h.size, fun k c e z hk he => h.blk hk (hF k c e z hk he)⟩
theorem KpN.below {W W' : World} (h : Below W.heap.size W W') : KpN W W' := KpN.keep (Keep.ofBelow h (fun _ => False)) (fun _ _ _ _ _ _ h => h)
theorem grownN_below {W W' : World} (h : Below W.heap.size W W') : W.grownBy W' none := ⟨h.os, h.tape, h.output, h.size, fun k hk _ => h.block k hk⟩
theorem abidesN_below {β : Type} {B : Nat} {J : β → World → Prop} (hJ : AbidesFrom B J) {s : β} {W W' : World} (h : J s W) (hb : Below W.heap.size W W') : J s W' := hJ s W W' none h (grownN_below hb) (fun r e => by cases e)
/-- the most that a plan's number may be -/
def mostN (x : Fin 5) : Int := if x.val = 4 then 1125899906842624 else 1099511627776
def NUMS : List (Fin 5) := [0, 1, 2, 3, 4]
theorem nums1_stops (n : Nat) (hn : 1 ≤ n) (b q : Nat) (w : World) (hq : w.heap[q]? = some (.cells #[.pointer (some ⟨b, 0, none⟩)] 108 (0, 0))) :
    SeqStopsK Fence.wide n Tryz.prog 74 #[.pointer (some ⟨q, 0, none⟩)] (fun x : Fin 5 => #[.pointer (some ⟨b, x.val + 1, none⟩), .int .i64 (mostN x)]) KpN (fun xs => xs = NUMS) (fun pre => pre <+: NUMS) 5 w := by
  intro l J Jx W hW hJ hJx hY h0
  have hqW := (Keep.ofBelow hW (fun _ => False)).blk hq (fun h => h)
  have c0 : W.drew.cell? ⟨q, 0, none⟩ = some (.pointer (some ⟨b, 0, none⟩)) := by
    show W.cell? _ = _
    rw [blk_cell hqW]; rfl
  have C0 := Lib.hid c0
  have HQ := Lib.hid hqW
  have CA := Lib.hid fun (o : Obj) => show (W.alloc o).drew.cell? ⟨q, 0, none⟩ = some (.pointer (some ⟨b, 0, none⟩)) from ((Keep.refl (fun _ => False) W).alloc o).cell c0 (fun h => h)
  have HJ := Lib.hid hJ
  have HY := Lib.hid hY
  have H0 := Lib.hid h0
  clear hq hqW hJ hY h0
  refine callsIn_of_wp Tryz.func74 rfl trivial ?_ rfl
  simp only [Tryz.ntmps74, List.size_toArray, List.length_cons, List.length_nil, Nat.reduceAdd, Nat.reduceSub, Array.replicate_succ, Array.replicate_zero, List.push_toArray, List.append_toArray, List.nil_append, List.cons_append]
  refine wpIn_wide.2 ?_
  go_upto_region 0 with fail
  refine wp_region_held_drew (S := (fun w' => w'.cell? ⟨q, 0, none⟩ = some (.pointer (some ⟨b, 0, none⟩)))) (by kernel_rfl) ?_ (fun hHeld0 => ?_)
  · (try dsimp only)
    first | with_reducible exact C0.out | with_reducible exact CA.out _
  refine takeN (v := ?_) 0 rfl (by kernel_rfl) (by kernel_rfl) (by kernel_rfl) (fun _ _ _ h => h) (by rfl) ?_ hHeld0 ?_
  rotate_left
  · intro w hSw; (try dsimp only at hSw); go_simp; with_reducible rfl
  try simp only [Act.put, List.setIfInBounds_toArray, List.set_cons_zero, List.set_cons_succ]
  refine takeN (v := ?_) 1 rfl (by kernel_rfl) (by kernel_rfl) (by kernel_rfl) (fun _ _ _ h => h) (by rfl) ?_ hHeld0 ?_
  rotate_left
  · intro w hSw; (try dsimp only at hSw); go_simp; with_reducible rfl
  try simp only [Act.put, List.setIfInBounds_toArray, List.set_cons_zero, List.set_cons_succ]
  refine takeN (v := ?_) 2 rfl (by kernel_rfl) (by kernel_rfl) (by kernel_rfl) (fun _ _ _ h => h) (by rfl) ?_ hHeld0 ?_
  rotate_left
  · intro w hSw; (try dsimp only at hSw); go_simp; with_reducible rfl
  try simp only [Act.put, List.setIfInBounds_toArray, List.set_cons_zero, List.set_cons_succ]
  refine takeN (v := ?_) 3 rfl (by kernel_rfl) (by kernel_rfl) (by kernel_rfl) (fun _ _ _ h => h) (by rfl) ?_ hHeld0 ?_
  rotate_left
  · intro w hSw; (try dsimp only at hSw); go_simp; with_reducible rfl
  try simp only [Act.put, List.setIfInBounds_toArray, List.set_cons_zero, List.set_cons_succ]
  refine takeN (v := ?_) 4 rfl (by kernel_rfl) (by kernel_rfl) (by kernel_rfl) (fun _ _ _ h => h) (by rfl) ?_ hHeld0 ?_
  rotate_left
  · intro w hSw; (try dsimp only at hSw); go_simp; with_reducible rfl
  try simp only [Act.put, List.setIfInBounds_toArray, List.set_cons_zero, List.set_cons_succ]
  refine takeN (v := ?_) 5 rfl (by kernel_rfl) (by kernel_rfl) (by kernel_rfl) (fun _ _ _ h => h) (by rfl) ?_ hHeld0 ?_
  rotate_left
  · intro w hSw; (try dsimp only at hSw); go_simp; with_reducible rfl
  try simp only [Act.put, List.setIfInBounds_toArray, List.set_cons_zero, List.set_cons_succ]
  refine takeN (v := ?_) 6 rfl (by kernel_rfl) (by kernel_rfl) (by kernel_rfl) (fun _ _ _ h => h) (by rfl) ?_ hHeld0 ?_
  rotate_left
  · intro w hSw; (try dsimp only at hSw); go_simp; with_reducible rfl
  try simp only [Act.put, List.setIfInBounds_toArray, List.set_cons_zero, List.set_cons_succ]
  refine takeN (v := ?_) 7 rfl (by kernel_rfl) (by kernel_rfl) (by kernel_rfl) (fun _ _ _ h => h) (by rfl) ?_ hHeld0 ?_
  rotate_left
  · intro w hSw; (try dsimp only at hSw); go_simp; with_reducible rfl
  try simp only [Act.put, List.setIfInBounds_toArray, List.set_cons_zero, List.set_cons_succ]
  refine takeN (v := ?_) 8 rfl (by kernel_rfl) (by kernel_rfl) (by kernel_rfl) (fun _ _ _ h => h) (by rfl) ?_ hHeld0 ?_
  rotate_left
  · intro w hSw; (try dsimp only at hSw); go_simp; with_reducible rfl
  try simp only [Act.put, List.setIfInBounds_toArray, List.set_cons_zero, List.set_cons_succ]
  refine takeN (v := ?_) 9 rfl (by kernel_rfl) (by kernel_rfl) (by kernel_rfl) (fun _ _ _ h => h) (by rfl) ?_ hHeld0 ?_
  rotate_left
  · intro w hSw; (try dsimp only at hSw); go_simp; with_reducible rfl
  try simp only [Act.put, List.setIfInBounds_toArray, List.set_cons_zero, List.set_cons_succ]
  refine takeN (v := ?_) 10 rfl (by kernel_rfl) (by kernel_rfl) (by kernel_rfl) (fun _ _ _ h => h) (by rfl) ?_ hHeld0 ?_
  rotate_left
  · intro w hSw; (try dsimp only at hSw); go_simp; with_reducible rfl
  try simp only [Act.put, List.setIfInBounds_toArray, List.set_cons_zero, List.set_cons_succ]
  refine takeN (v := ?_) 11 rfl (by kernel_rfl) (by kernel_rfl) (by kernel_rfl) (fun _ _ _ h => h) (by rfl) ?_ hHeld0 ?_
  rotate_left
  · intro w hSw; (try dsimp only at hSw); go_simp; with_reducible rfl
  try simp only [Act.put, List.setIfInBounds_toArray, List.set_cons_zero, List.set_cons_succ]
  refine takeN (v := ?_) 14 rfl (by kernel_rfl) (by kernel_rfl) (by kernel_rfl) (fun _ _ _ h => h) (by rfl) ?_ hHeld0 ?_
  rotate_left
  · intro w hSw; (try dsimp only at hSw); go_simp; with_reducible rfl
  try simp only [Act.put, List.setIfInBounds_toArray, List.set_cons_zero, List.set_cons_succ]
  refine wpAnyH_ready (rs := [12]) (by kernel_rfl) (by simp) ?_
  refine readyN rfl (fun K hK => ?_) ?_
  · -- operation 12
    go_simp
    refine hK.out _ _ ?_ (fun hHeld1 => ?_)
    · (try dsimp only)
      first | with_reducible exact C0.out | with_reducible exact CA.out _
    clear hK K hHeld0
    try simp only [Act.put, List.setIfInBounds_toArray, List.set_cons_zero, List.set_cons_succ]
    refine takeN (v := ?_) 13 rfl (by kernel_rfl) (by kernel_rfl) (by kernel_rfl) (fun _ _ _ h => h) (by rfl) ?_ hHeld1 ?_
    rotate_left
    · intro w hSw; (try dsimp only at hSw); go_simp; with_reducible rfl
    try simp only [Act.put, List.setIfInBounds_toArray, List.set_cons_zero, List.set_cons_succ]
    refine wpAnyH_done (by kernel_rfl) ?_ _
    obtain ⟨W1, hW1⟩ : ∃ W1, (W.alloc (.cells #[.pointer (some ⟨b, 1, none⟩), .pointer (some ⟨b, 2, none⟩), .pointer (some ⟨b, 3, none⟩), .pointer (some ⟨b, 4, none⟩)] 109)).drew = W1 := ⟨_, rfl⟩
    have hb1 : Below W.heap.size W W1 := by rw [← hW1]; exact ((Below.refl _ _).alloc (Nat.le_refl _) _).drew
    have hz1 : W1.heap[W.heap.size]? = some (.cells #[.pointer (some ⟨b, 1, none⟩), .pointer (some ⟨b, 2, none⟩), .pointer (some ⟨b, 3, none⟩), .pointer (some ⟨b, 4, none⟩)] 109 (0, 0)) := by rw [← hW1]; exact blk_new W _
    have HJ1 := Lib.hid (abidesN_below HJ.out H0.out hb1)
    have HQ1 := Lib.hid ((Keep.ofBelow hb1 (fun _ => False)).blk HQ.out (fun h => h))
    have HZ1 := Lib.hid hz1
    rw [hW1]
    clear hW1 hb1 hz1 C0 CA c0 H0 hW
    go_wp2_with fail
    refine (wpIn_wide (n := n)).1 ?_
    gi_loopw [19] (fun i wr => ∃ j : Nat, j ≤ 4 ∧ i = .int .i64 j ∧ Hid (J (NUMS.take j) wr) ∧ Hid (wr.heap[W.heap.size]? = some (.cells #[.pointer (some ⟨b, 1, none⟩), .pointer (some ⟨b, 2, none⟩), .pointer (some ⟨b, 3, none⟩), .pointer (some ⟨b, 4, none⟩)] 109 (0, 0))) ∧ Hid (wr.heap[q]? = some (.cells #[.pointer (some ⟨b, 0, none⟩)] 108 (0, 0)))) (fun i _ => 4 - (intOf i).toNat)
    case atStart => exact ⟨0, by omega, rfl, HJ1, HZ1, HQ1⟩
    case round =>
      obtain ⟨j, hj, rfl, HJs, HZ, HQQ⟩ := hrel
      by_cases hlt : j < 4
      · have hcj : wr.cell? ⟨W.heap.size, j, none⟩ = some (.pointer (some ⟨b, j + 1, none⟩)) := by
          rw [blk_cell HZ.out]
          match j, hlt with
          | 0, _ => rfl
          | 1, _ => rfl
          | 2, _ => rfl
          | 3, _ => rfl
        have htk : NUMS.take (j + 1) = NUMS.take j ++ [⟨j, by omega⟩] := by
          match j, hlt with
          | 0, _ => rfl
          | 1, _ => rfl
          | 2, _ => rfl
          | 3, _ => rfl
        have hi1 : ((j : Int) < 4) := by omega
        obtain ⟨fn, tmps, assign, body, hy, hR⟩ := HY.out _ ⟨j, by omega⟩ _ HJs.out (by rw [List.length_take]; show min j 5 < 5; omega)
        have HR := Lib.hid hR
        have HTK := Lib.hid htk
        rw [show mostN ⟨j, by omega⟩ = 1099511627776 by unfold mostN; rw [if_neg (by show ¬ j = 4; omega)]] at hy
        clear hR htk
        dsimp only at hy
        gi_wp2
        refine HR.out.mono ?_
        rintro e W3 (⟨rfl, hJ3, hk3⟩ | ⟨rfl, hJx3⟩)
        · have HJ3 := Lib.hid (show J (NUMS.take (j + 1)) W3 by rw [HTK.out]; exact hJ3)
          have HZ3 := Lib.hid (hk3.2 _ _ _ _ HZ.out (.inr rfl))
          have HQ3 := Lib.hid (hk3.2 _ _ _ _ HQQ.out (.inl rfl))
          clear hJ3 hk3
          gi_wp2
          go_roundw
          case rel => exact ⟨j + 1, by omega, by simp, HJ3, HZ3, HQ3⟩
          case measure => simp [intOf]; omega
        · have HX3 := Lib.hid hJx3
          clear hJx3
          gi_wp2
          refine bodyPost_ret (results_none rfl _ _ _) rfl ?_
          exact ⟨⟨_, rfl⟩, .inr ⟨_, by rw [← HTK.out]; exact List.take_prefix _ _, HX3.out⟩⟩
      · obtain rfl : j = 4 := by omega
        have hcq : wr.cell? ⟨q, 0, none⟩ = some (.pointer (some ⟨b, 0, none⟩)) := by rw [blk_cell HQQ.out]; rfl
        obtain ⟨fn, tmps, assign, body, hy, hR⟩ := HY.out _ 4 _ HJs.out (by decide)
        have HR := Lib.hid hR
        clear hR
        have hy2 : (#[.pointer (some ⟨b, (4 : Fin 5).val + 1, none⟩), .int .i64 (mostN 4)] : Array Value) = #[.pointer (some ⟨b, 5, none⟩), .int .i64 1125899906842624] := rfl
        rw [hy2] at hy
        clear hy2
        gi_wp2
        refine (wpIn_wide (n := n)).1 ?_
        gi_wp2
        refine HR.out.mono ?_
        rintro e W3 (⟨rfl, hJ3, hk3⟩ | ⟨rfl, hJx3⟩)
        · have HJ3 := Lib.hid (show J NUMS W3 from hJ3)
          clear hJ3 hk3
          gi_wp2
          go_end0
          exact ⟨⟨_, rfl⟩, .inl ⟨_, rfl, HJ3.out⟩⟩
        · have HX3 := Lib.hid (show Jx NUMS W3 from hJx3)
          clear hJx3
          gi_wp2
          go_end0
          exact ⟨⟨_, rfl⟩, .inr ⟨_, List.prefix_refl _, HX3.out⟩⟩
  exact AllReadyH.nil
theorem numbers_any (b : Nat) (w : World) :
    Calls Tryz.prog 51 #[.pointer (some ⟨b, 0, none⟩)] w fun e w' => e = .returned (.func (.func 74) #[] #[.pointer (some ⟨w.heap.size, 0, none⟩)]) ∧ w' = w.alloc (.cells #[.pointer (some ⟨b, 0, none⟩)] 108) := by
  go_enter Tryz.func51, Tryz.ntmps51
  go_wp2
  go_ret
  exact ⟨rfl, rfl⟩
theorem blk_own {β : Type} (B : Nat) (cs : Array Value) (T : TypeId) (n₀ : Nat) : OwnFrom n₀ (fun (_ : β) W => W.heap[B]? = some (.cells cs T (0, 0))) := by
  intro _ X Y row h hg hr
  refine (hg.block B (Array.getElem?_eq_some_iff.1 h).1 (fun e' => ?_)).trans h
  obtain ⟨_, o, ho, hc⟩ := hr B e'.symm
  rw [h] at ho; cases ho; cases hc
theorem pure_own {β : Type} (Q : β → Prop) (n₀ : Nat) : OwnFrom n₀ (fun (s : β) (_ : World) => Q s) := fun _ _ _ _ h _ _ => h
end Go.Proofs.YtidppalhjknlfaaGreatDoor
namespace Go.Proofs.YtidppalhjknlfaaGreatDoor
open Go.RowKit Go.Shelf
set_option maxRecDepth 100000
set_option maxHeartbeats 1000000
set_option linter.unusedVariables false
set_option linter.unusedSimpArgs false
attribute [local go_sem] Oper.semAt_some
def Pl.num (p : Pl) (x : Fin 5) : Int := match x with | 0 => p.daily | 1 => p.monthly | 2 => p.over | 3 => p.roll | 4 => p.base
theorem Pl.num_cell (p : Pl) (v : Value) (x : Fin 5) : (p.cells v)[x.val + 1]? = some (.int .i64 (p.num x)) := by
  match x with
  | 0 => rfl
  | 1 => rfl
  | 2 => rfl
  | 3 => rfl
  | 4 => rfl
def goodN (p : Pl) (x : Fin 5) : Bool := decide (0 ≤ p.num x ∧ p.num x ≤ mostN x)
def plchk (p : Pl) : Bool := NUMS.all (goodN p) && (decide (0 < p.id) && tchk p.tiers)
theorem NUMS_all : ∀ x : Fin 5, x ∈ NUMS := by decide
theorem pcheck_any (p : Pl) (v : Value) (w : World) (hv : GR shT w v p.tiers) :
    Calls Tryz.prog 49 #[p.val v] w fun e w' => e = .returned (.bool (plchk p)) ∧ Below w.heap.size w w' := by
  obtain ⟨va, vc, rfl, _, _, _⟩ := hv.shape
  have HA := Lib.hid numbers_any
  obtain ⟨L, hL⟩ : ∃ L, L = p.tiers := ⟨_, rfl⟩
  have hcells := Pl.num_cell p (.slice va L.length vc)
  obtain ⟨C, hC⟩ : ∃ C, C = plchk p := ⟨_, rfl⟩
  rw [← hC]
  have HC := Lib.hid hC
  have HV := Lib.hid hv
  have HCE := Lib.hid hcells
  obtain ⟨G, hG⟩ : ∃ G : Fin 5 → Bool, G = goodN p := ⟨_, rfl⟩
  have HG := Lib.hid hG
  obtain ⟨N, hN⟩ : ∃ N : Fin 5 → Int, N = p.num := ⟨_, rfl⟩
  have HN := Lib.hid hN
  have HL := Lib.hid hL
  rw [← hL] at HV ⊢
  clear hC hv hcells hG hN hL
  obtain ⟨id, da, mo, ov, ro, ba, ti⟩ := p
  unfold Pl.val
  refine (callsIn_wide (n := 9)).1 ?_
  refine callsIn_of_wp_marks Tryz.func49 rfl trivial ?_ rfl
  simp only [Tryz.ntmps49, List.size_toArray, List.length_cons, List.length_nil, Nat.reduceAdd, Nat.reduceSub, Array.replicate_succ, Array.replicate_zero, List.push_toArray, List.append_toArray, List.nil_append, List.cons_append]
  gi_wp2_with (refine ⟨trivial, ?_⟩; gi_at_call 51; refine (callsIn_wide.2 (HA.out _ _)).mono ?_; rintro e w' ⟨rfl, rfl⟩)
  have q1 := blk_alloc (blk_alloc (blk_new w (.cells #[.int .u32 id, .int .i64 da, .int .i64 mo, .int .i64 ov, .int .i64 ro, .int .i64 ba, .slice va L.length vc] 35)) (.cells #[.bool false] 4)) (.cells #[.pointer (some ⟨w.heap.size, 0, none⟩)] 108)
  have q2 := blk_alloc (blk_newAt (w := w.alloc (.cells #[.int .u32 id, .int .i64 da, .int .i64 mo, .int .i64 ov, .int .i64 ro, .int .i64 ba, .slice va L.length vc] 35)) (k := w.heap.size + 1) (by simp) (.cells #[.bool false] 4)) (.cells #[.pointer (some ⟨w.heap.size, 0, none⟩)] 108)
  have q3 := blk_newAt (w := (w.alloc (.cells #[.int .u32 id, .int .i64 da, .int .i64 mo, .int .i64 ov, .int .i64 ro, .int .i64 ba, .slice va L.length vc] 35)).alloc (.cells #[.bool false] 4)) (k := w.heap.size + 1 + 1) (by simp) (.cells #[.pointer (some ⟨w.heap.size, 0, none⟩)] 108)
  have hb0 : Below w.heap.size w (((w.alloc (.cells #[.int .u32 id, .int .i64 da, .int .i64 mo, .int .i64 ov, .int .i64 ro, .int .i64 ba, .slice va L.length vc] 35)).alloc (.cells #[.bool false] 4)).alloc (.cells #[.pointer (some ⟨w.heap.size, 0, none⟩)] 108)) := (((Below.refl _ w).alloc (Nat.le_refl _) _).alloc (by simp) _).alloc (by simp; omega) _
  obtain ⟨W0, hW0⟩ : ∃ W0, ((w.alloc (.cells #[.int .u32 id, .int .i64 da, .int .i64 mo, .int .i64 ov, .int .i64 ro, .int .i64 ba, .slice va L.length vc] 35)).alloc (.cells #[.bool false] 4)).alloc (.cells #[.pointer (some ⟨w.heap.size, 0, none⟩)] 108) = W0 := ⟨_, rfl⟩
  have hsz : W0.heap.size = w.heap.size + 3 := by rw [← hW0]; simp
  rw [hW0] at q1 q2 q3 hb0 ⊢
  clear hW0
  refine wpIn_rangeFunc_ownH rfl (by decide) (gf := 74) (lb := #[.pointer (some ⟨w.heap.size + 1 + 1, 0, none⟩)]) rfl trivial (enters_of Tryz.func74 (by kernel_rfl) rfl)
    (nums1_stops (9 - 1) (by decide) w.heap.size (w.heap.size + 1 + 1) W0 q3) KpN.trans (fun W l o o' _ h hc _ => KpN.putObj W l o o' h hc) (Below.refl _ _) (fun _ => rfl)
    (fun pre W => ((W.heap[w.heap.size]? = some (.cells #[.int .u32 id, .int .i64 da, .int .i64 mo, .int .i64 ov, .int .i64 ro, .int .i64 ba, .slice va L.length vc] 35 (0, 0)) ∧ W.heap[w.heap.size + 1]? = some (.cells #[.bool false] 4 (0, 0))) ∧ (∀ x ∈ pre, G x = true)) ∧ Below w.heap.size w W)
    (fun c pre W => (W.heap[w.heap.size + 1]? = some (.cells #[.bool false] 4 (0, 0)) ∧ (c = .ret ∧ ∃ x ∈ pre, G x = false)) ∧ Below w.heap.size w W)
    (OwnFrom.and (OwnFrom.and (OwnFrom.and (blk_own _ _ _ _) (blk_own _ _ _ _)) (pure_own (fun pre : List (Fin 5) => ∀ x ∈ pre, G x = true) _)) (ownFrom_below (Nat.le_refl _) (by omega)))
    (fun c => OwnFrom.and (OwnFrom.and (blk_own _ _ _ _) (pure_own (fun pre : List (Fin 5) => c = .ret ∧ ∃ x ∈ pre, G x = false) _)) (ownFrom_below (Nat.le_refl _) (by omega)))
    ⟨⟨⟨q1, q2⟩, by simp⟩, hb0⟩
    (fun x a' _ => a' = { tmps := #[.agg #[.int .u32 id, .int .i64 da, .int .i64 mo, .int .i64 ov, .int .i64 ro, .int .i64 ba, .slice va L.length vc], .pointer (some ⟨w.heap.size, 0, none⟩), .pointer (some ⟨w.heap.size + 1, 0, none⟩), .pointer (some ⟨w.heap.size, x.val + 1, none⟩), .int .i64 (mostN x), .func (Fn.func 74) #[] #[.pointer (some ⟨w.heap.size + 1 + 1, 0, none⟩)], .pointer (some ⟨w.heap.size, x.val + 1, none⟩), .int .i64 (mostN x), undef, undef, undef, undef, undef, undef, undef, undef, undef, undef, undef, undef, undef, undef, undef, undef, undef, undef, undef], defers := [] })
    (fun _ _ _ _ _ _ hs _ _ => hs)
    ?assign ?body ?done ?stop
  case assign =>
    rintro l pre x W K hI hK
    gi_wp2
    exact hK _ _ (KeepsFrom.refl _ _) (KpN.below (Below.refl _ _)) hI rfl
  case body =>
    rintro l pre x a' W hl0 ⟨r, hr0⟩ ⟨⟨⟨h1, h2⟩, h3⟩, hB⟩ rfl hlt
    have hc : W.cell? ⟨w.heap.size, x.val + 1, none⟩ = some (.int .i64 (N x)) := by
      rw [blk_cell h1, HN.out]
      have := HCE.out x
      simp only [Pl.cells] at this
      simpa using this
    have hgx : G x = decide (0 ≤ N x ∧ N x ≤ mostN x) := by rw [HG.out, HN.out]; rfl
    have hf := blk_cell h2 0
    have hz := blk_frozen h2 0
    obtain ⟨n, hn⟩ : ∃ n, n = N x := ⟨_, rfl⟩
    obtain ⟨m, hm⟩ : ∃ m, m = mostN x := ⟨_, rfl⟩
    rw [← hn] at hc
    rw [← hn, ← hm] at hgx
    rw [← hm]
    have H1 := Lib.hid h1
    have H2 := Lib.hid h2
    have H3 := Lib.hid h3
    have HB := Lib.hid hB
    clear hn hm h1 h2 h3 hB
    by_cases hg : 0 ≤ n ∧ n ≤ m
    · rw [decide_eq_true hg] at hgx
      have HGX := Lib.hid hgx
      have i1 : ¬ n < 0 := by omega
      have i2 : ¬ n > m := by omega
      clear hg hgx
      gi_wp2
      exact ⟨KeepsFrom.refl _ _, KpN.below (Below.refl _ _), ⟨⟨H1.out, H2.out⟩, fun y hy => by
        rcases List.mem_append.1 hy with hy | hy
        · exact H3.out y hy
        · obtain rfl := List.mem_singleton.1 hy; exact HGX.out⟩, HB.out⟩
    · rw [decide_eq_false hg] at hgx
      have HGX := Lib.hid hgx
      have hgg : n < 0 ∨ (¬ n < 0 ∧ n > m) := by omega
      clear hg hgx
      rcases hgg with i1 | ⟨i1, i2⟩
      all_goals
        gi_wp2
        exact ⟨(KeepsOthers.setCell _ _ _).from _, ⟨blk_setCell H2.out 0 _, rfl, x, by simp, HGX.out⟩, HB.out.setCell (p := ⟨w.heap.size + 1, 0, none⟩) (by simp) _⟩
  case done =>
    rintro D ys W hD rfl ⟨⟨⟨h1, h2⟩, h3⟩, hB⟩ hK
    have e0 := blk_cell h1 0
    have e6 := blk_cell h1 6
    have f0 := blk_cell h2 0
    have g0 := blk_frozen h2 0
    have HT := Lib.hid (tcheck_any _ L W (HV.out.below (hB.mono (Nat.le_refl _))))
    have hall : NUMS.all G = true := List.all_eq_true.2 h3
    have hCC : C = (decide (0 < id) && tchk L) := by rw [HC.out, HL.out]; unfold plchk; rw [← HG.out, hall, Bool.true_and]
    obtain ⟨T, hT⟩ : ∃ T, T = tchk L := ⟨_, rfl⟩
    rw [← hT] at hCC HT
    have HK := Lib.hid hK
    have HB := Lib.hid hB
    have H2 := Lib.hid h2
    clear hT hall h1 h2 h3 hB hK
    by_cases hid : 0 < id
    · rw [decide_eq_true hid, Bool.true_and] at hCC
      have i1 : id > 0 := hid
      subst hCC
      clear hid HC
      gi_wp2_with (refine ⟨trivial, ?_⟩; gi_at_call 72; refine (callsIn_wide.2 HT.out).mono ?_; rintro e w' ⟨rfl, hb⟩
                   have HB1 := Lib.hid hb
                   have f1 := blk_cell ((Keep.ofBelow hb (fun _ => False)).blk H2.out (fun h => h)) 0
                   have g1 := blk_frozen ((Keep.ofBelow hb (fun _ => False)).blk H2.out (fun h => h)) 0)
      have hK1 : w'.heap[D]? = some (.deferred (some [])) := (Keep.ofBelow HB1.out (fun _ => False)).blk HK.out (fun h => h)
      have hk2 : Boxed w' (w.heap.size + 1) 4 (.bool false) := (Keep.ofBelow HB1.out (fun _ => False)).blk H2.out (fun h => h)
      have hK2 : (w'.setCell ⟨w.heap.size + 1, 0, none⟩ (.bool C)).heap[D]? = some (.deferred (some [])) := (KeepsOthers.setCell _ _ _).same D _ hK1 rfl
      have hbx := hk2.set (.bool C)
      have hbb : Below w.heap.size w (w'.setCell ⟨w.heap.size + 1, 0, none⟩ (.bool C)) := (HB.out.trans (HB1.out.mono HB.out.size)).setCell (p := ⟨w.heap.size + 1, 0, none⟩) (by simp) _
      refine ⟨by simp, .inl ⟨_, _, rfl, run_takeDeferred hK2, ?_⟩⟩
      have d1 := (hbx.kept (grownBy_putObj' _ D (Obj.deferred none)) (fun e => by simp only [Option.some.injEq] at e; omega)).cell
      refine ⟨_, (by simp [results, Tryz.results49, go_sem, d1]; rfl), ?_⟩
      exact ⟨rfl, hbb.trans (belowK_b (w := w) (Nat.le_refl _) _ D _ _ (by omega) hK2 rfl rfl)⟩
    · rw [decide_eq_false hid, Bool.false_and] at hCC
      have i1 : ¬ id > 0 := hid
      subst hCC
      clear hid HC
      gi_wp2_with (refine ⟨trivial, ?_⟩)
      have hk2 : Boxed W (w.heap.size + 1) 4 (.bool false) := H2.out
      have hK2 : (W.setCell ⟨w.heap.size + 1, 0, none⟩ (.bool false)).heap[D]? = some (.deferred (some [])) := (KeepsOthers.setCell _ _ _).same D _ HK.out rfl
      have hbx := hk2.set (.bool false)
      have hbb : Below w.heap.size w (W.setCell ⟨w.heap.size + 1, 0, none⟩ (.bool false)) := HB.out.setCell (p := ⟨w.heap.size + 1, 0, none⟩) (by simp) _
      refine ⟨by simp, .inl ⟨_, _, rfl, run_takeDeferred hK2, ?_⟩⟩
      have d1 := (hbx.kept (grownBy_putObj' _ D (Obj.deferred none)) (fun e => by simp only [Option.some.injEq] at e; omega)).cell
      refine ⟨_, (by simp [results, Tryz.results49, go_sem, d1]; rfl), ?_⟩
      exact ⟨rfl, hbb.trans (belowK_b (w := w) (Nat.le_refl _) _ D _ _ (by omega) hK2 rfl rfl)⟩
  case stop =>
    rintro D c pre W hD hsp ⟨⟨h2, rfl, x, hx, hgx⟩, hB⟩ hK
    have hCC : C = false := by
      rw [HC.out]
      unfold plchk
      rw [← HG.out]
      have : NUMS.all G = false := by
        rw [List.all_eq_false]
        exact ⟨x, NUMS_all x, by rw [hgx]; decide⟩
      rw [this, Bool.false_and]
    have hb2 : Boxed W (w.heap.size + 1) 4 (.bool false) := h2
    gi_wp2
    refine ⟨by simp, .inl ⟨_, _, rfl, run_takeDeferred hK, ?_⟩⟩
    have d1 := (hb2.kept (grownBy_putObj' W D (Obj.deferred none)) (fun e => by simp only [Option.some.injEq] at e; omega)).cell
    refine ⟨_, (by simp [results, Tryz.results49, go_sem, d1]; rfl), ?_⟩
    exact ⟨by rw [hCC], hB.trans (belowK_b (w := w) (Nat.le_refl _) W D _ _ (by omega) hK rfl rfl)⟩
end Go.Proofs.YtidppalhjknlfaaGreatDoor
