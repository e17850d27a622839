/- The keys of a store's change, sorted: maps.Keys and slices.Sorted by the shelf's contracts. -/
import Derived.Test.YtlmngghkhnnaeaaQMRead6
import Derived.Test.YtlmngghkhnnaeaaQShelf
import Derived.Test.YtlmngghkhnnaeaaQIter
namespace Go.Proofs.Ytlmngghkhnnaeaa
open Go.RowKit Go.Maps Go.Sort Go.Shelf
set_option maxRecDepth 100000
set_option linter.unusedVariables false
set_option linter.unusedSimpArgs false
theorem insert_perm {H : Type} (x : Lit × DataW H) : ∀ l : List (Lit × DataW H), (DataW.insert x l).Perm (x :: l)
  | [] => List.Perm.refl _
  | y :: r => by
    unfold DataW.insert
    by_cases h : x.1.before y.1 = true
    · rw [if_pos h]
    · rw [if_neg h]
      exact ((insert_perm x r).cons y).trans (List.Perm.swap x y r)
theorem foldr_perm {H : Type} : ∀ l : List (Lit × DataW H), (l.foldr DataW.insert []).Perm l
  | [] => List.Perm.refl _
  | x :: l => (insert_perm x _).trans ((foldr_perm l).cons x)
/-- every value reads as true -/
def anyR (v : Value) : Option (DataW Unit × List MemPlace) := some (.lit (.bool true), [])
theorem u3 : Try.prog.underlying 3 = some (.int .i64) := by kernel_rfl
theorem fr_owns {V : Nat → Prop} {w : World} {b : Nat} {f : Wt} (h : FrIs w V b f) (hn : (f.map (·.1)).Nodup) (hr : ∀ q ∈ f, 0 ≤ q.1 ∧ q.1 < 4096) (hl : f.length ≤ 4096) :
    ∃ D0 : DataW Unit, w.ownsMap Try.prog 3 anyR b f.length D0 ∧ Maps.size D0 = f.length ∧ (intKeys D0).Perm (f.map (·.1)) := by
  obtain ⟨vs, ⟨es, c, h1, h2, h3, h4⟩, hlen, hx⟩ := h
  have hkeys : es.toList.map (·.key) = f.map fun q => Value.int .i64 q.1 := by
    have e1 : es.toList.map (·.key) = vs.map fun p => Value.int .i64 p.1 := by
      have := congrArg (List.map Prod.fst) h2
      simpa [List.map_map, Function.comp_def] using this
    rw [e1]
    apply List.ext_getElem?
    intro i
    rw [List.getElem?_map, List.getElem?_map]
    cases hf : f[i]? with
    | none =>
      have : vs[i]? = none := List.getElem?_eq_none (by have := List.getElem?_eq_none_iff.1 hf; omega)
      rw [this]; rfl
    | some q =>
      obtain ⟨v, hv, _⟩ := hx i q hf
      rw [hv]; rfl
  have hes : es.size = f.length := by
    have := congrArg List.length hkeys
    simpa using this
  have hkey : ∀ x ∈ es.toList, ∃ a : Int, x.key = .int .i64 a ∧ 0 ≤ a ∧ a < 4096 := by
    intro x hx'
    have : x.key ∈ es.toList.map (·.key) := List.mem_map_of_mem hx'
    rw [hkeys] at this
    obtain ⟨q, hq, e⟩ := List.mem_map.1 this
    exact ⟨q.1, e.symm, hr q hq⟩
  have hrd : ∀ x ∈ es.toList, ∀ a : Int, x.key = .int .i64 a → 0 ≤ a → a < 4096 → WideElems.rd Try.prog 3 anyR x = some (.int .i64 a, .lit (.bool true)) := by
    intro x hx' a e h0 h5
    have hmn : IntKind.i64.min ≤ 0 := by decide
    have hw : (Lit.int .i64 a).wf = true := by simp [Lit.wf]; omega
    unfold WideElems.rd keyOf
    rw [u3]
    simp only [e, mapKey, u3, anyR]
    simp [hw]
  have hfit : WideElems.Fit Try.prog 3 anyR es c := by
    refine ⟨by rw [hes]; unfold maxLen; omega, ⟨h4, ?_, ?_⟩, fun x hx' => ?_⟩
    · exact (List.pairwise_map.1 h3 |> fun h => List.pairwise_map.2 (h.imp (fun h => by omega)))
    · rw [hkeys]
      have := hn
      rw [List.Nodup, List.pairwise_map] at this ⊢
      exact this.imp (fun h e => h (by injection e))
    · obtain ⟨a, e, h0, h5⟩ := hkey x hx'
      exact ⟨_, hrd x hx' a e h0 h5⟩
  have hmap : (es.toList.map (WideElems.rg Try.prog 3 anyR)).map (fun p => _root_.Go.intOf p.1) = f.map (·.1) := by
    have e1 : ∀ l : List MapEntry, (∀ x ∈ l, x ∈ es.toList) → (l.map (WideElems.rg Try.prog 3 anyR)).map (fun p => _root_.Go.intOf p.1) = l.map (fun x => match x.key with | .int _ a => a | _ => 0) := by
      intro l hl'
      rw [List.map_map]
      apply List.map_congr_left
      intro x hx'
      obtain ⟨a, e, h0, h5⟩ := hkey x (hl' x hx')
      simp only [Function.comp, WideElems.rg, hrd x (hl' x hx') a e h0 h5, Option.getD_some, e]
      rfl
    rw [e1 _ (fun x h => h)]
    have := congrArg (List.map (fun v : Value => match v with | .int _ a => a | _ => (0 : Int))) hkeys
    simpa [List.map_map, Function.comp_def] using this
  refine ⟨.map ((es.toList.map (WideElems.rg Try.prog 3 anyR)).foldr DataW.insert []), ⟨es, c, h1, hfit, by rw [hes]; exact Nat.le_refl _, rfl⟩, ?_, ?_⟩
  · show ((es.toList.map (WideElems.rg Try.prog 3 anyR)).foldr DataW.insert []).length = _
    rw [(foldr_perm _).length_eq, List.length_map, Array.length_toList, hes]
  · show (((es.toList.map (WideElems.rg Try.prog 3 anyR)).foldr DataW.insert []).map fun p => _root_.Go.intOf p.1).Perm _
    rw [← hmap]
    exact (foldr_perm _).map _
theorem sortsA (m : Nat) : AnyZI.SortsIn Try.prog Try.sortedA_ren Fence.wide m :=
  ⟨fun blk off cap ss W hH hblk hsz => callsIn_wide.2 (Try.slices_Sort_int blk off cap ss W hH hblk hsz),
   fun p cap W => callsIn_wide.2 (Try.slices_Sort_int_none p cap W)⟩
theorem fkeys_any (mb : Option Nat) (W : World) : Calls Try.prog 58 #[.map mb] W fun e w' => e = .returned (.func (.func 76) #[] #[.pointer (some ⟨W.heap.size, 0, none⟩)]) ∧ w' = W.alloc (.cells #[.map mb] 51) :=
  (callsIn_wide (n := 5)).1 (AnyZI.keys_in Try.keysA Fence.wide 5 trivial rfl mb W)
theorem fsorted_any {V : Nat → Prop} {b : Nat} {f : Wt} (w : World) (h : FrIs w V b f) (hn : (f.map (·.1)).Nodup) (hr : ∀ q ∈ f, 0 ≤ q.1 ∧ q.1 < 4096) (hl : f.length ≤ 4096) :
    Calls Try.prog 57 #[.func (.func 76) #[] #[.pointer (some ⟨w.heap.size, 0, none⟩)]] (w.alloc (.cells #[.map (some b)] 51)) fun e w' => ∃ (v : Value) (L : List Int), e = .returned v ∧ L.Perm (f.map (·.1)) ∧ w'.ownsRow w.heap.size 3 1 v L.length (L.map (Value.int .i64)) ∧ Below w.heap.size w w' := by
  obtain ⟨D0, hown, hsz, hp⟩ := fr_owns h hn hr hl
  have hbl := hown.lt
  have hseq : SeqGives Fence.wide 2 Try.prog 76 #[.pointer (some ⟨w.heap.size, 0, none⟩)] encZ (fun ss => ss.Perm (intKeys D0)) (Maps.size D0) (w.alloc (.cells #[.map (some b)] 51)) :=
    AnyZI.keys_gives (ρ := Try.keysA_ren) { Try.keysA with } Fence.wide _ trivial rfl (by omega) w.heap.size b f.length D0 _ (by simp) (by simp) (by
      obtain ⟨es, clock, hb, Ft, hs, hD⟩ := hown
      exact ⟨es, clock, (Below.heap_alloc _ _ b hbl).trans hb, Ft, hs, hD⟩)
  have cS := AnyZI.sorted_in Try.sortedA Fence.wide 5 trivial trivial trivial trivial rfl (by omega) (sortsA _) (enters_of Try.func75 (by kernel_rfl) rfl) 76 #[.pointer (some ⟨w.heap.size, 0, none⟩)] trivial (enters_of Try.func76 (by kernel_rfl) rfl) _ _ (by rw [hsz]; unfold maxLen; omega) (by rw [hsz]; omega) _ hseq
  refine ((callsIn_wide (n := 5)).1 cS).mono ?_
  rintro e w' ⟨v, ss, rfl, hS, hrow, hnil, hb⟩
  have hlen : (ss.mergeSort (fun x y => decide (x ≤ y))).length = ss.length := List.length_mergeSort _
  refine ⟨v, ss.mergeSort (fun x y => decide (x ≤ y)), rfl, ((List.mergeSort_perm ss _).trans hS).trans hp, ?_, ((Below.refl _ w).alloc (Nat.le_refl _) _).trans (hb.mono (by simp))⟩
  rw [hlen]
  refine ⟨hrow.1, ?_⟩
  rcases hrow.2 with e | ⟨g, cap, cur, h1, h2, h3⟩
  · exact .inl e
  · exact .inr ⟨g, cap, cur, h1, by simp at h2; omega, h3⟩
end Go.Proofs.Ytlmngghkhnnaeaa
