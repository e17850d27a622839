/- Plans, tenants and segments in a store's pairs, in plain words. No walk here. -/
import Derived.Test.YtidppalhjknlfaaDoorQLeLaw
import Derived.Test.YtidppalhjknlfaaDoorQPl4
import Derived.Test.YtidppalhjknlfaaDoorQMOrd3
import Derived.Test.YtidppalhjknlfaaDoorQPer
namespace Go.Proofs.YtidppalhjknlfaaDoor
open Go.RowKit
set_option linter.unusedVariables false
set_option linter.unusedSimpArgs false
/-- a segment: from a day on, a plan -/
structure Sg where
  day : Int
  plan : Int
  deriving DecidableEq
def isDate (d : Int) : Bool := decide (-719162 ≤ d ∧ d ≤ 2932896)
theorem isDate_iff {d : Int} : isDate d = true ↔ -719162 ≤ d ∧ d ≤ 2932896 := by unfold isDate; exact decide_eq_true_iff
structure Sg.Ok (g : Sg) : Prop where
  day : -719162 ≤ g.day ∧ g.day ≤ 2932896
  plan : 1 ≤ g.plan ∧ g.plan ≤ 4294967295
def Sg.cells (g : Sg) : List Value := [.int .i64 g.day, .int .u32 g.plan]
def Sg.val (g : Sg) : Value := .agg #[.int .i64 g.day, .int .u32 g.plan]
def shS : Sh Sg := ⟨2, Sg.cells, fun _ => rfl, by decide, fun x u hu => by
  simp only [Sg.cells, List.mem_cons, List.not_mem_nil, or_false] at hu
  rcases hu with rfl | rfl <;> rfl⟩
def nk (i : Int) : ByteArray := keyS 110 [i]
def tk (t : Int) : ByteArray := keyS 116 [t]
def sp (t : Int) : ByteArray := keyS 115 [t]
def sk (t d : Int) : ByteArray := keyS 115 [t, d]
def Sg.up (g : Sg) : Int := g.day + 4294967296
def Sg.key (t : Int) (g : Sg) : ByteArray := sk t g.up
theorem key1_list (k t : Int) : (keyS k [t]).data.toList = (bOne k).data.toList ++ (be8 t).data.toList := by
  rw [show keyS k [t] = keyS k [] ++ be8 t from keyS_snoc k [] t, append_list]; rfl
theorem key2_list (k t i : Int) : (keyS k [t, i]).data.toList = (bOne k).data.toList ++ ((be8 t).data.toList ++ (be8 i).data.toList) := by
  rw [show keyS k [t, i] = keyS k [t] ++ be8 i from keyS_snoc k [t] i, append_list, key1_list, List.append_assoc]
theorem nk_list (t : Int) : (nk t).data.toList = [110] ++ (be8 t).data.toList := key1_list 110 t
theorem tk_list (t : Int) : (tk t).data.toList = [116] ++ (be8 t).data.toList := key1_list 116 t
theorem sp_list (t : Int) : (sp t).data.toList = [115] ++ (be8 t).data.toList := key1_list 115 t
theorem sk_list (t d : Int) : (sk t d).data.toList = [115] ++ ((be8 t).data.toList ++ (be8 d).data.toList) := key2_list 115 t d
theorem nk_size (t : Int) : (nk t).size = 9 := keyS_size _ _
theorem tk_size (t : Int) : (tk t).size = 9 := keyS_size _ _
theorem sp_size (t : Int) : (sp t).size = 9 := keyS_size _ _
theorem sk_size (t d : Int) : (sk t d).size = 17 := keyS_size _ _
def U64 (n : Int) : Prop := 0 ≤ n ∧ n ≤ 18446744073709551615
theorem be8_injU {x y : Int} (hx : U64 x) (hy : U64 y) (h : (be8 x).data.toList = (be8 y).data.toList) : x = y := by
  have vx := valN_be8 x hx.1 hx.2
  have vy := valN_be8 y hy.1 hy.2
  rw [h] at vx; omega
theorem U32.u64 {x : Int} (h : U32 x) : U64 x := ⟨h.1, by have := h.2; omega⟩
theorem Sg.Ok.up {g : Sg} (h : g.Ok) : U64 g.up := by have := h.day; unfold U64 Sg.up; omega
theorem nk_inj {a b : Int} (ha : U32 a) (hb : U32 b) (h : nk a = nk b) : a = b := by
  have e : (nk a).data.toList = (nk b).data.toList := by rw [h]
  rw [nk_list, nk_list, List.append_cancel_left_eq] at e
  exact be8_inj ha hb e
theorem tk_inj {a b : Int} (ha : U32 a) (hb : U32 b) (h : tk a = tk b) : a = b := by
  have e : (tk a).data.toList = (tk b).data.toList := by rw [h]
  rw [tk_list, tk_list, List.append_cancel_left_eq] at e
  exact be8_inj ha hb e
theorem sk_inj {t i t' i' : Int} (ht : U32 t) (hi : U64 i) (ht' : U32 t') (hi' : U64 i') (h : sk t i = sk t' i') : t = t' ∧ i = i' := by
  have e : (sk t i).data.toList = (sk t' i').data.toList := by rw [h]
  rw [sk_list, sk_list, List.append_cancel_left_eq] at e
  have := List.append_inj e (by rw [be8_len, be8_len])
  exact ⟨be8_inj ht ht' this.1, be8_injU hi hi' this.2⟩
theorem nk_tk {a b : Int} : nk a ≠ tk b := fun h => by
  have e : (nk a).data.toList = (tk b).data.toList := by rw [h]
  rw [nk_list, tk_list] at e
  injection e with e _
  cases e
theorem nk_sk {a b c : Int} : nk a ≠ sk b c := fun h => by
  have := congrArg ByteArray.size h
  rw [nk_size, sk_size] at this; omega
theorem tk_sk {a b c : Int} : tk a ≠ sk b c := fun h => by
  have := congrArg ByteArray.size h
  rw [tk_size, sk_size] at this; omega
theorem pre_sk (t i : Int) : pre (sp t) (sk t i) = true := by
  rw [show sk t i = sp t ++ be8 i from keyS_snoc 115 [t] i]; exact pre_append _ _
theorem pre_sk_inj {t t' i : Int} (ht : U32 t) (ht' : U32 t') (h : pre (sp t) (sk t' i) = true) : t = t' := by
  unfold pre at h
  rw [List.isPrefixOf_iff_prefix, sp_list, sk_list, List.prefix_append_right_inj] at h
  have h3 : (be8 t').data.toList <+: (be8 t').data.toList ++ (be8 i).data.toList := List.prefix_append _ _
  have h4 := List.prefix_of_prefix_length_le h h3 (by rw [be8_len, be8_len]; omega)
  exact be8_inj ht ht' (h4.eq_of_length (by rw [be8_len, be8_len]))
theorem pre_nk (t t' : Int) : pre (sp t) (nk t') = false := by
  unfold pre
  rw [sp_list, nk_list]
  rfl
theorem pre_tk (t t' : Int) : pre (sp t) (tk t') = false := by
  unfold pre
  rw [sp_list, tk_list]
  rfl
theorem sk_lt {t i j : Int} (hi : U64 i) (hj : U64 j) (h : i < j) : slt (sk t i) (sk t j) = true := by
  unfold slt
  rw [toList_data, toList_data, sk_list, sk_list, bl_append _ _ _ _ rfl, bl_irrefl, Bool.false_or, bl_append _ _ _ _ rfl, bl_irrefl, Bool.false_or, bl_val _ _ (by rw [be8_len, be8_len])]
  have vx := valN_be8 i hi.1 hi.2
  have vy := valN_be8 j hj.1 hj.2
  simp
  omega
/-! ### one tenant's segments -/
structure SS (now : AL) (t : Int) (L : List Sg) : Prop where
  at_ : ∀ g ∈ L, (g.key t, be8 g.plan) ∈ now
  all : ∀ q ∈ now, pre (sp t) q.1 = true → ∃ g ∈ L, q = (g.key t, be8 g.plan)
  ok : ∀ g ∈ L, g.Ok
  up : L.Pairwise fun a b => a.day < b.day
theorem SS.nil (t : Int) : SS [] t [] := ⟨by simp, by simp, by simp, List.Pairwise.nil⟩
def sprs (t : Int) (L : List Sg) : AL := L.map fun g => (g.key t, be8 g.plan)
theorem SS.scan {now : AL} {t : Int} {L : List Sg} (hn : AL.ND now) (h : SS now t L) : AL.scan (sp t) now = sprs t L := by
  have hs : (sprs t L).Pairwise plt := by
    unfold sprs
    rw [List.pairwise_map]
    refine List.Pairwise.imp_of_mem (fun {a b} ha hb hab => ?_) h.up
    exact sk_lt (h.ok a ha).up (h.ok b hb).up (by unfold Sg.up; omega)
  have hs2 : (AL.scan (sp t) now).Pairwise plt := (srt_strict hn).sublist List.filter_sublist
  refine eq_of_perm_strict plt plt_asymm _ _ ?_ hs2 hs
  refine (List.perm_ext_iff_of_nodup (strict_nodup hs2) (strict_nodup hs)).2 fun q => ?_
  unfold AL.scan sprs
  rw [List.mem_filter, (srt_perm now).mem_iff, List.mem_map]
  constructor
  · rintro ⟨h1, h2⟩
    obtain ⟨l, hl, rfl⟩ := h.all q h1 h2
    exact ⟨l, hl, rfl⟩
  · rintro ⟨l, hl, rfl⟩
    exact ⟨h.at_ l hl, pre_sk _ _⟩
/-- a pair of another kind is put -/
theorem SS.put_no {now : AL} {t : Int} {L : List Sg} (hn : AL.ND now) (h : SS now t L) {k v : ByteArray} (hk : pre (sp t) k = false) : SS (AL.put k v now) t L := by
  refine ⟨fun g hg => (mem_put hn).2 (.inr ⟨h.at_ g hg, fun e => ?_⟩), fun q hq hp => ?_, h.ok, h.up⟩
  · have := pre_sk t g.up
    rw [show sk t g.up = k from e, hk] at this; cases this
  · rcases (mem_put hn).1 hq with rfl | ⟨hq, _⟩
    · rw [hk] at hp; cases hp
    · exact h.all q hq hp
theorem pre_other {t u i : Int} (ht : U32 t) (hu : U32 u) (hne : u ≠ t) : pre (sp t) (sk u i) = false := by
  cases hh : pre (sp t) (sk u i)
  · rfl
  · exact absurd (pre_sk_inj ht hu hh).symm hne
/-- what a change leaves -/
def chgL (L : List Sg) (g : Sg) : List Sg := L.filter (fun x => decide (x.day ≠ g.day)) ++ [g]
theorem SS.put {now : AL} {t : Int} {L : List Sg} (hn : AL.ND now) (h : SS now t L) (ht : U32 t) (g : Sg) (hg : g.Ok) (hl : ∀ x ∈ L, x.day ≤ g.day) : SS (AL.put (g.key t) (be8 g.plan) now) t (chgL L g) := by
  unfold chgL
  refine ⟨fun x hx => ?_, fun q hq hp => ?_, fun x hx => ?_, ?_⟩
  · rcases List.mem_append.1 hx with hx | hx
    · obtain ⟨h1, h2⟩ := List.mem_filter.1 hx
      refine (mem_put hn).2 (.inr ⟨h.at_ x h1, fun e => ?_⟩)
      have := (sk_inj ht (h.ok x h1).up ht hg.up e).2
      unfold Sg.up at this
      exact (of_decide_eq_true h2) (by omega)
    · obtain rfl := List.mem_singleton.1 hx
      exact (mem_put hn).2 (.inl rfl)
  · rcases (mem_put hn).1 hq with rfl | ⟨hq, hne⟩
    · exact ⟨g, by simp, rfl⟩
    · obtain ⟨x, hx, rfl⟩ := h.all q hq hp
      refine ⟨x, List.mem_append.2 (.inl (List.mem_filter.2 ⟨hx, decide_eq_true fun e => hne ?_⟩)), rfl⟩
      show sk t x.up = sk t g.up
      unfold Sg.up; rw [e]
  · rcases List.mem_append.1 hx with hx | hx
    · exact h.ok x (List.mem_filter.1 hx).1
    · obtain rfl := List.mem_singleton.1 hx; exact hg
  · refine List.pairwise_append.2 ⟨h.up.sublist List.filter_sublist, List.pairwise_singleton _ _, fun a ha b hb => ?_⟩
    obtain rfl := List.mem_singleton.1 hb
    obtain ⟨h1, h2⟩ := List.mem_filter.1 ha
    have := hl a h1
    have := of_decide_eq_true h2
    omega
/-! ### plans and tenants -/
structure Tn where
  id : Int
  shift : Int
  day : Int
  L : List Sg
structure Tn.Ok (T : Tn) : Prop where
  id : 1 ≤ T.id ∧ T.id ≤ 4294967295
  shift : shiftB T.shift = true
  day : -719162 ≤ T.day ∧ T.day ≤ 2932896
  head : ∃ p r, T.L = ⟨T.day, p⟩ :: r
  seg : ∀ g ∈ T.L, g.Ok
  up : T.L.Pairwise fun a b => a.day < b.day
def pfind (ps : List Pl) (i : Int) : Option Pl := ps.find? fun p => decide (p.id = i)
def tfind (ts : List Tn) (t : Int) : Option Tn := ts.find? fun T => decide (T.id = t)
def tset (ts : List Tn) (t : Int) (L : List Sg) : List Tn := ts.map fun T => if T.id = t then { T with L := L } else T
def tsegs (ts : List Tn) (t : Int) : List Sg := ((tfind ts t).map Tn.L).getD []
theorem pfind_some {ps : List Pl} {i : Int} {p : Pl} (h : pfind ps i = some p) : p ∈ ps ∧ p.id = i := ⟨List.mem_of_find?_eq_some h, by have := List.find?_some (show List.find? _ _ = _ from h); simpa using this⟩
theorem tfind_some {ts : List Tn} {i : Int} {p : Tn} (h : tfind ts i = some p) : p ∈ ts ∧ p.id = i := ⟨List.mem_of_find?_eq_some h, by have := List.find?_some (show List.find? _ _ = _ from h); simpa using this⟩
theorem pfind_snoc (ps : List Pl) (p : Pl) (i : Int) : pfind (ps ++ [p]) i = (pfind ps i).or (if p.id = i then some p else none) := by
  unfold pfind
  rw [List.find?_append]
  by_cases h : p.id = i
  · simp [h]
  · simp [h]
theorem tfind_snoc (ts : List Tn) (p : Tn) (i : Int) : tfind (ts ++ [p]) i = (tfind ts i).or (if p.id = i then some p else none) := by
  unfold tfind
  rw [List.find?_append]
  by_cases h : p.id = i
  · simp [h]
  · simp [h]
theorem tfind_set (t : Int) (L : List Sg) (i : Int) : ∀ ts : List Tn, tfind (tset ts t L) i = if i = t then (tfind ts i).map fun T => { T with L := L } else tfind ts i
  | [] => by simp [tfind, tset]
  | T :: ts => by
    have ih := tfind_set t L i ts
    unfold tfind tset at ih ⊢
    rw [List.map_cons, List.find?_cons, List.find?_cons]
    by_cases hT : T.id = t
    · rw [if_pos hT]
      by_cases hi : T.id = i
      · have e1 : decide (({ T with L := L } : Tn).id = i) = true := decide_eq_true hi
        have e2 : decide (T.id = i) = true := decide_eq_true hi
        rw [e1, if_pos (by omega)]; rfl
      · have e1 : decide (({ T with L := L } : Tn).id = i) = false := decide_eq_false hi
        have e2 : decide (T.id = i) = false := decide_eq_false hi
        rw [e1]; exact ih
    · rw [if_neg hT]
      by_cases hi : T.id = i
      · have e2 : decide (T.id = i) = true := decide_eq_true hi
        rw [e2, if_neg (by omega)]
      · have e2 : decide (T.id = i) = false := decide_eq_false hi
        rw [e2]; exact ih
structure CS (now : AL) (ps : List Pl) (ts : List Tn) : Prop where
  plan : ∀ i, U32 i → AL.get (nk i) now = (pfind ps i).map Pl.enc
  ten : ∀ t, U32 t → AL.get (tk t) now = (tfind ts t).map fun T => i8 T.shift ++ i8 T.day
  seg : ∀ t, U32 t → SS now t (tsegs ts t)
  pok : ∀ p ∈ ps, p.Ok ∧ plchk p = true
  tok : ∀ T ∈ ts, T.Ok
  self : ∀ T ∈ ts, tfind ts T.id = some T
theorem CS.nil : CS [] [] [] := ⟨fun _ _ => rfl, fun _ _ => rfl, fun t _ => SS.nil t, by simp, by simp, by simp⟩
theorem Pl.pos {p : Pl} (h : plchk p = true) : 0 < p.id := by
  unfold plchk at h
  simp only [Bool.and_eq_true, decide_eq_true_eq] at h
  exact h.2.1
theorem CS.define {now : AL} {ps : List Pl} {ts : List Tn} (hn : AL.ND now) (h : CS now ps ts) (p : Pl) (hp : p.Ok) (hc : plchk p = true) (hf : pfind ps p.id = none) : CS (AL.put (nk p.id) p.enc now) (ps ++ [p]) ts := by
  have hid : U32 p.id := hp.id
  refine ⟨fun i hi => ?_, fun t ht => ?_, fun t ht => (h.seg t ht).put_no hn (pre_nk _ _), fun q hq => ?_, h.tok, h.self⟩
  · rw [get_put hn, pfind_snoc]
    by_cases e : i = p.id
    · subst e
      rw [if_pos rfl, hf, if_pos rfl]; rfl
    · rw [if_neg (fun x => e (nk_inj hi hid x)), if_neg (fun x => e x.symm), h.plan i hi, Option.or_none]
  · rw [get_put hn, if_neg (fun x => nk_tk x.symm), h.ten t ht]
  · rcases List.mem_append.1 hq with hq | hq
    · exact h.pok q hq
    · obtain rfl := List.mem_singleton.1 hq; exact ⟨hp, hc⟩
theorem CS.opened {now : AL} {ps : List Pl} {ts : List Tn} (hn : AL.ND now) (h : CS now ps ts) (t s i d : Int) (ht : 1 ≤ t ∧ t ≤ 4294967295) (hs : shiftB s = true) (hi : 1 ≤ i ∧ i ≤ 4294967295) (hd : -719162 ≤ d ∧ d ≤ 2932896) (hf : tfind ts t = none) :
    CS (AL.put ((⟨d, i⟩ : Sg).key t) (be8 i) (AL.put (tk t) (i8 s ++ i8 d) now)) ps (ts ++ [⟨t, s, d, [⟨d, i⟩]⟩]) := by
  have hn1 : AL.ND (AL.put (tk t) (i8 s ++ i8 d) now) := nd_put hn
  have hu : U32 t := ⟨by omega, ht.2⟩
  have hg : (⟨d, i⟩ : Sg).Ok := ⟨hd, hi⟩
  have hts : ∀ u, tsegs (ts ++ [⟨t, s, d, [⟨d, i⟩]⟩]) u = if u = t then [⟨d, i⟩] else tsegs ts u := fun u => by
    unfold tsegs
    rw [tfind_snoc]
    by_cases e : u = t
    · subst e; rw [hf, if_pos rfl, if_pos rfl]; rfl
    · rw [if_neg (fun x => e x.symm), if_neg e, Option.or_none]
  refine ⟨fun j hj => ?_, fun u hu' => ?_, fun u hu' => ?_, h.pok, fun T hT => ?_, fun T hT => ?_⟩
  · rw [get_put hn1, if_neg (show nk j ≠ Sg.key t ⟨d, i⟩ from nk_sk), get_put hn, if_neg nk_tk, h.plan j hj]
  · rw [get_put hn1, if_neg (show tk u ≠ Sg.key t ⟨d, i⟩ from tk_sk), get_put hn, tfind_snoc]
    by_cases e : u = t
    · subst e; rw [if_pos rfl, hf, if_pos rfl]; rfl
    · rw [if_neg (fun x => e (tk_inj hu' hu x)), if_neg (fun x => e x.symm), Option.or_none, h.ten u hu']
  · rw [hts]
    have h1 := (h.seg u hu').put_no (v := i8 s ++ i8 d) hn (pre_tk u t)
    by_cases e : u = t
    · subst e
      rw [if_pos rfl]
      have h0 : tsegs ts u = [] := by unfold tsegs; rw [hf]; rfl
      rw [h0] at h1
      exact h1.put hn1 hu' ⟨d, i⟩ hg (by simp)
    · rw [if_neg e]
      exact h1.put_no hn1 (pre_other hu' hu (fun x => e x.symm))
  · rcases List.mem_append.1 hT with hT | hT
    · exact h.tok T hT
    · obtain rfl := List.mem_singleton.1 hT
      exact ⟨ht, hs, hd, ⟨i, [], rfl⟩, fun g hg' => by obtain rfl := List.mem_singleton.1 hg'; exact hg, List.pairwise_singleton _ _⟩
  · rw [tfind_snoc]
    rcases List.mem_append.1 hT with hT | hT
    · rw [h.self T hT]; rfl
    · obtain rfl := List.mem_singleton.1 hT
      show (tfind ts t).or _ = _
      rw [hf, if_pos rfl]; rfl
theorem chgL_head {L : List Sg} {d p : Int} {r : List Sg} (hL : L = ⟨d, p⟩ :: r) (hup : L.Pairwise fun a b => a.day < b.day) (g : Sg) (hl : ∀ x ∈ L, x.day ≤ g.day) : ∃ p' r', chgL L g = ⟨d, p'⟩ :: r' := by
  subst hL
  unfold chgL
  by_cases e : d = g.day
  · have hr : r = [] := by
      cases r with
      | nil => rfl
      | cons y r =>
        have h1 := (List.pairwise_cons.1 hup).1 y (by simp)
        have h2 := hl y (by simp)
        dsimp only at h1; omega
    subst hr
    refine ⟨g.plan, [], ?_⟩
    rw [List.filter_cons_of_neg (by simp [e]), List.filter_nil, List.nil_append, e]
  · exact ⟨p, r.filter (fun x => decide (x.day ≠ g.day)) ++ [g], by rw [List.filter_cons_of_pos (by simp [e]), List.cons_append]⟩
theorem CS.changed {now : AL} {ps : List Pl} {ts : List Tn} (hn : AL.ND now) (h : CS now ps ts) (t i d : Int) (T : Tn) (hT : tfind ts t = some T) (hi : 1 ≤ i ∧ i ≤ 4294967295) (hd : -719162 ≤ d ∧ d ≤ 2932896) (hl : ∀ x ∈ T.L, x.day ≤ d) :
    CS (AL.put ((⟨d, i⟩ : Sg).key t) (be8 i) now) ps (tset ts t (chgL T.L ⟨d, i⟩)) := by
  obtain ⟨hm, hid⟩ := tfind_some hT
  have hok := h.tok T hm
  have hu : U32 t := ⟨by have := hok.id; omega, by have := hok.id; omega⟩
  have hg : (⟨d, i⟩ : Sg).Ok := ⟨hd, hi⟩
  have hs : tsegs ts t = T.L := by unfold tsegs; rw [hT]; rfl
  refine ⟨fun j hj => ?_, fun u hu' => ?_, fun u hu' => ?_, h.pok, fun X hX => ?_, fun X hX => ?_⟩
  · rw [get_put hn, if_neg (show nk j ≠ Sg.key t ⟨d, i⟩ from nk_sk), h.plan j hj]
  · rw [get_put hn, if_neg (show tk u ≠ Sg.key t ⟨d, i⟩ from tk_sk), h.ten u hu', tfind_set]
    split
    · rw [Option.map_map]; rfl
    · rfl
  · have hts : tsegs (tset ts t (chgL T.L ⟨d, i⟩)) u = if u = t then chgL T.L ⟨d, i⟩ else tsegs ts u := by
      unfold tsegs
      rw [tfind_set]
      by_cases e : u = t
      · subst e; rw [if_pos rfl, if_pos rfl, hT]; rfl
      · rw [if_neg e, if_neg e]
    rw [hts]
    by_cases e : u = t
    · subst e
      rw [if_pos rfl, ← hs]
      exact (h.seg u hu').put hn hu' ⟨d, i⟩ hg (by rw [hs]; exact hl)
    · rw [if_neg e]
      exact (h.seg u hu').put_no hn (pre_other hu' hu (fun x => e x.symm))
  · obtain ⟨Y, hY, rfl⟩ := List.mem_map.1 hX
    have hy := h.tok Y hY
    by_cases e : Y.id = t
    · rw [if_pos e]
      obtain ⟨p, r, hp⟩ := hok.head
      have hSS : SS now t T.L := hs ▸ h.seg t hu
      have hS2 := hSS.put hn hu ⟨d, i⟩ hg hl
      obtain ⟨p', r', hp'⟩ := chgL_head hp hok.up ⟨d, i⟩ hl
      have hYT : Y = T := by
        have := h.self Y hY
        rw [e, hT] at this
        exact (Option.some.inj this).symm
      subst hYT
      exact ⟨hok.id, hok.shift, hok.day, ⟨p', r', hp'⟩, hS2.ok, hS2.up⟩
    · rw [if_neg e]; exact hy
  · obtain ⟨Y, hY, rfl⟩ := List.mem_map.1 hX
    have hs' := h.self Y hY
    have hid' : (if Y.id = t then { Y with L := chgL T.L ⟨d, i⟩ } else Y).id = Y.id := by split <;> rfl
    rw [hid', tfind_set]
    by_cases e : Y.id = t
    · rw [if_pos e, if_pos e, hs']; rfl
    · rw [if_neg e, if_neg e, hs']
/-! ### months, and what is asked of segments -/
theorem in_ex (d : Int) (h0 : -719162 ≤ d) (h1 : d ≤ 2932896) : ∃ M, 12 ≤ M ∧ M < 120000 ∧ Cal.In M d := by
  have step : ∀ k : Nat, ∀ M : Int, 12 ≤ M → M + k = 120000 → Cal.first M ≤ d → ∃ M, 12 ≤ M ∧ M < 120000 ∧ Cal.In M d := by
    intro k
    induction k with
    | zero =>
      intro M _ h h2
      have : M = 120000 := by omega
      rw [this, Cal.first_end] at h2; omega
    | succ k ih =>
      intro M hM h h2
      by_cases hd : d < Cal.first (M + 1)
      · exact ⟨M, hM, by omega, h2, hd⟩
      · exact ih (M + 1) (by omega) (by omega) (by omega)
  exact step 119988 12 (by omega) (by omega) (by rw [Cal.first_12]; exact h0)
/-- a day's month -/
def monGo : Nat → Int → Int
  | 0, _ => 0
  | n + 1, d => if Cal.first ((n + 1 : Nat) : Int) ≤ d then ((n + 1 : Nat) : Int) else monGo n d
def mon (d : Int) : Int := monGo 119999 d
theorem monGo_eq {M d : Int} (h : Cal.In M d) (h0 : 0 < M) : ∀ n : Nat, M ≤ n → monGo n d = M
  | 0, hn => by omega
  | n + 1, hn => by
    unfold monGo
    by_cases hd : Cal.first ((n + 1 : Nat) : Int) ≤ d
    · rw [if_pos hd]
      have := Cal.In_ge h hd
      omega
    · rw [if_neg hd]
      have : M ≠ ((n + 1 : Nat) : Int) := fun e => hd (e ▸ h.1)
      exact monGo_eq h h0 n (by omega)
theorem mon_eq {M d : Int} (h : Cal.In M d) (h1 : 12 ≤ M) (h2 : M < 120000) : mon d = M := monGo_eq h (by omega) 119999 (by omega)
theorem mon_in {d : Int} (h : -719162 ≤ d ∧ d ≤ 2932896) : Cal.In (mon d) d ∧ 12 ≤ mon d ∧ mon d < 120000 := by
  obtain ⟨M, h1, h2, hM⟩ := in_ex d h.1 h.2
  rw [mon_eq hM h1 h2]
  exact ⟨hM, h1, h2⟩
/-- segments that begin in a day's month, but on that day -/
def manyL (L : List Sg) (d : Int) : List Sg := L.filter fun x => decide (x.day ≠ d ∧ mon x.day = mon d)
theorem manyL_snoc (L : List Sg) (d : Int) (x : Sg) : manyL (L ++ [x]) d = manyL L d ++ (if x.day ≠ d ∧ mon x.day = mon d then [x] else []) := by
  unfold manyL
  rw [List.filter_append]
  by_cases h : x.day ≠ d ∧ mon x.day = mon d
  · rw [if_pos h, List.filter_cons_of_pos (by simpa using h)]; rfl
  · rw [if_neg h, List.filter_cons_of_neg (by simpa using h)]; rfl
/-- segments that begin no later than a day -/
def upto (L : List Sg) (d : Int) : List Sg := L.takeWhile fun g => decide (g.day ≤ d)
theorem upto_at (d : Int) : ∀ (L : List Sg) (j : Nat) (x : Sg), (∀ (i : Nat) y, i < j → L[i]? = some y → y.day ≤ d) → L[j]? = some x → d < x.day → upto L d = L.take j
  | [], j, x, _, h, _ => by simp at h
  | a :: L, 0, x, _, h, hd => by
    simp at h; subst h
    unfold upto
    rw [List.takeWhile_cons_of_neg (by simp; omega)]; rfl
  | a :: L, j + 1, x, hno, h, hd => by
    have h0 := hno 0 a (by omega) rfl
    have ih := upto_at d L j x (fun i y hi hy => hno (i + 1) y (by omega) (by simpa using hy)) (by simpa using h) hd
    unfold upto at ih ⊢
    rw [List.takeWhile_cons_of_pos (by simp; omega), ih]; rfl
theorem upto_all (d : Int) : ∀ (L : List Sg), (∀ (i : Nat) y, L[i]? = some y → y.day ≤ d) → upto L d = L
  | [], _ => rfl
  | a :: L, hno => by
    have h0 := hno 0 a rfl
    have ih := upto_all d L (fun i y hy => hno (i + 1) y (by simpa using hy))
    unfold upto at ih ⊢
    rw [List.takeWhile_cons_of_pos (by simp; omega), ih]
theorem upto_pre (L : List Sg) (d : Int) : upto L d <+: L := List.takeWhile_prefix _
theorem upto_take (L : List Sg) (d : Int) : upto L d = L.take (upto L d).length := (List.prefix_iff_eq_take.1 (upto_pre L d))
theorem upto_len (L : List Sg) (d : Int) : (upto L d).length ≤ L.length := (upto_pre L d).length_le
theorem upto_get (L : List Sg) (d : Int) (i : Nat) (h : i < (upto L d).length) : L[i]? = (upto L d)[i]? := by
  conv => rhs; rw [upto_take]
  rw [List.getElem?_take, if_pos h]
end Go.Proofs.YtidppalhjknlfaaDoor
