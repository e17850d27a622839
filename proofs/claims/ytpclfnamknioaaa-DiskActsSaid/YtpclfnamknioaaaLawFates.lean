/- The walk of DiskFates. -/
import Derived.Test.YtpclfnamknioaaaDoesA
namespace Go.Proofs.Ytpclfnamknioaaa
open Go.RowKit
set_option maxRecDepth 100000
set_option maxHeartbeats 1000000
set_option linter.unusedVariables false
set_option linter.unusedSimpArgs false
section
variable {ops : Array Oper} {rest : List Oper} {o : Oper} {a : Act} {Q : Exit → Act → World → Prop}
/-- l = append(l, z), z an int -/
theorem wp_app_int {W : World} (base : Nat) (hgd : o.guard = none) (sl x : Operand) (ho : o.op = .call { callee := .builtin .append, args := #[sl, x], argTypes := #[29, 29] })
    (v : Value) (xs : List Int) (z : Int) (hs : a.eval sl = v) (hx : a.eval x = .slice (some ⟨W.heap.size, 0, none⟩) 1 1) (HO : W.ownsRow base 3 1 v xs.length (xs.map (Value.int .i64))) (hbase : base ≤ W.heap.size)
    (hl : xs.length ≤ 1000000)
    (h : ∀ v' w', w'.ownsRow base 3 1 v' (xs ++ [z]).length ((xs ++ [z]).map (Value.int .i64)) → Keep (fun k => v.ownBlock = some k) W w' → (∀ k, v'.ownBlock = some k → v.ownBlock = some k ∨ W.heap.size ≤ k) → wpList Try.prog ops Q rest (a.put o.dst v') w') :
    wpList Try.prog ops Q (o :: rest) a (W.alloc (.cells #[.int .i64 z] 3)) := by
  obtain ⟨i0, hi, hzz⟩ := Option.map_eq_some_iff.1 iInt
  simp only [Prod.mk.injEq] at hzz
  obtain ⟨hz0, hz1, hz2⟩ := hzz
  refine wpList_append_own_at (W.alloc (.cells #[.int .i64 z] 3)) hgd sl x 29 ho base 3 i0 (.int .i64 0) 1 8 uInts hi hz0 hz1 hz2 rfl (by omega) v xs.length (xs.map (Value.int .i64)) hs (World.ownsRow.alloc HO _) ⟨W.heap.size, 0, none⟩ 1 1 [.int .i64 z] hx rfl
    (World.news_of_block (cs := #[.int .i64 z]) (t := 3) (fr := (0, 0)) (heap_alloc_new W _)) (by simp [Value.oneCell']) (by simp only [maxLen]; omega) (by omega) (by simp; omega) ?_
  intro v1 w1 hown hg _ hat
  refine h v1 w1 ?_ (((Keep.refl _ W).alloc _).trans (keep_grown hg) (fun i hi => .inl hi)) (fun k hk => ?_)
  · rw [List.map_append, List.length_append]; exact hown
  · rcases hat with hat | hat
    · exact .inl (hat ▸ hk)
    · rw [hat] at hk; cases hk; exact .inr (by simp)
end
/-! ### the plain law -/
theorem write_live {S : DS} (hf : S.fuse = -1) (hd : S.dead = false) (at_ : Int) (u : ByteArray) (hu : u.size = 4096) :
    (writeE S at_ u = 0 ↔ 0 ≤ at_ ∧ at_ < S.L.length) ∧ (writeR S at_ u).L = S.L ∧ (writeR S at_ u).fuse = -1 ∧ (writeR S at_ u).dead = false ∧
    (writeE S at_ u = 0 → (writeR S at_ u).W.map (·.1) = if (wget at_ S.W).isSome then S.W.map (·.1) else S.W.map (·.1) ++ [at_]) ∧ (writeE S at_ u ≠ 0 → writeR S at_ u = S) := by
  have hwd : (writeS S at_ u).dead = false := by
    show (S.dead || S.fuse == 0) = false
    rw [hd, hf]; rfl
  have hwf : (writeS S at_ u).fuse = -1 := by
    show (if 0 < S.fuse then S.fuse - 1 else S.fuse) = -1
    rw [hf]; rfl
  by_cases hz : sureE S.dead S.L.length at_ u.size = 0
  · have hs := sureE_zero hz
    have e1 : writeE S at_ u = 0 := by unfold writeE; rw [if_pos hz, hwd]; rfl
    have e2 : writeR S at_ u = writeS S at_ u := by unfold writeR; rw [if_pos hz]
    rw [e1, e2]
    exact ⟨⟨fun _ => ⟨hs.2.1, hs.2.2.1⟩, fun _ => rfl⟩, rfl, hwf, hwd, fun _ => wput_keys at_ u S.W, fun h => absurd rfl h⟩
  · have e1 : writeE S at_ u = sureE S.dead S.L.length at_ u.size := by unfold writeE; rw [if_neg hz]
    have e2 : writeR S at_ u = S := by unfold writeR; rw [if_neg hz]
    rw [e2]
    refine ⟨⟨fun h => absurd (e1 ▸ h) hz, fun h => ?_⟩, rfl, hf, hd, fun h => absurd (e1 ▸ h) hz, fun _ => rfl⟩
    exfalso
    apply hz
    rw [hd, hu]
    unfold sureE
    rw [if_neg (by decide), if_neg (by omega)]
theorem wget_some (k : Int) : ∀ l : Wt, (wget k l).isSome = decide (k ∈ l.map (·.1))
  | [] => by simp [wget]
  | q :: l => by
    have ih := wget_some k l
    by_cases h : k = q.1
    · subst h; simp [wget]
    · simp only [wget, if_neg h, List.map_cons, List.mem_cons, h, false_or]; exact ih
/-- what was seen: the keys that wait -/
def Seen (sm : IM) (ks : List Int) : Prop := ∀ k, IM.get k sm = if k ∈ ks then some (.bool true) else none
theorem Seen.nil : Seen [] [] := fun k => by simp [IM.get]
theorem Seen.look {sm : IM} {ks : List Int} (h : Seen sm ks) (k : Int) : (IM.get k sm).getD (.bool false) = .bool (decide (k ∈ ks)) := by
  rw [h k]
  by_cases hk : k ∈ ks <;> simp [hk]
theorem Seen.put {sm : IM} {ks : List Int} (h : Seen sm ks) (k : Int) : Seen (IM.put k (.bool true) sm) (ks ++ [k]) := fun j => by
  rw [IM.get_put, h j]
  by_cases hj : j = k
  · simp [hj]
  · simp [hj]
/-- all fates: what was written lasts -/
theorem restart_all {S : DS} (h : S.Ok) (i : Nat) : readP (restartS S (List.replicate S.W.length 255)) i = readP S i := by
  have e : readP (restartS S (List.replicate S.W.length 255)) i = pgOf ((setl (fateF (List.replicate S.W.length 255)) S.W S.L S.W.length).getD i none) := rfl
  have e2 : readP S i = (wget i S.W).getD (pgOf (S.L.getD i none)) := rfl
  rcases setl_get (fateF (List.replicate S.W.length 255)) S.W S.L h.nd h.rng i S.W.length (Nat.le_refl _) with ⟨j, u, hj, hu, hs⟩ | ⟨hno, hs⟩
  · have hw := wget_at S.W j i u h.nd hu
    have hf : fateF (List.replicate S.W.length 255) j = 255 := by
      unfold fateF
      rw [List.getD_eq_getElem?_getD, List.getElem?_replicate, if_pos hj]; rfl
    rw [e, e2, hw, Option.getD_some, List.getD_eq_getElem?_getD, hs, hf]
    exact mix_all _ _ (h.lsz i) (h.wsz _ (List.mem_of_getElem? hu))
  · rw [e, e2, wget_no _ _ hno, List.getD_eq_getElem?_getD, hs, ← List.getD_eq_getElem?_getD]; rfl
theorem rows_all {S : DS} (h : S.Ok) : (List.range (restartS S (List.replicate S.W.length 255)).L.length).map (fun (k : Nat) => readP (restartS S (List.replicate S.W.length 255)) k) = (List.range S.L.length).map (fun (k : Nat) => readP S k) := by
  have e : (restartS S (List.replicate S.W.length 255)).L.length = S.L.length := setl_length _ _ _ _
  rw [e]
  exact List.map_congr_left fun i _ => restart_all h i
theorem new_flush (m : Nat) : flushE (newS m) = 0 ∧ flushR (newS m) = newS m := ⟨rfl, rfl⟩
theorem zBool (w : World) : (zeroValue 4).run Try.prog w = .ok (.bool false) w := by kernel_rfl
theorem KA.row {A : Nat → Prop} {w w' : World} {B : Nat} {e : TypeId} {n : Nat} {v : Value} {xs : List Value} (h : KA A w w') (hr : w.ownsRow B e 1 v n xs) (hA : ∀ k, v.ownBlock = some k → A k) : w'.ownsRow B e 1 v n xs := by
  refine ⟨hr.1, ?_⟩
  rcases hr.2 with hn | ⟨g, cap, cur, he, hb, hg, rest⟩
  · exact .inl hn
  · exact .inr ⟨g, cap, cur, he, hb, h g _ (hA g (by rw [he]; rfl)) hg, rest⟩
theorem KA.imap {A : Nat → Prop} {w w' : World} {b : Nat} {l : IM} (h : KA A w w') (hm : IMapAt w b l) (hA : A b) : IMapAt w' b l := by
  obtain ⟨es, c, h1, rest⟩ := hm
  exact ⟨es, c, h b _ hA h1, rest⟩
theorem row_keep {w w' : World} {F : Nat → Prop} {B : Nat} {e : TypeId} {n : Nat} {v : Value} {xs : List Value} (h : Keep F w w') (hr : w.ownsRow B e 1 v n xs) (hA : ∀ k, v.ownBlock = some k → ¬ F k) : w'.ownsRow B e 1 v n xs := by
  refine ⟨hr.1, ?_⟩
  rcases hr.2 with hn | ⟨g, cap, cur, he, hb, hg, rest⟩
  · exact .inl hn
  · exact .inr ⟨g, cap, cur, he, hb, h.blk hg (hA g (by rw [he]; rfl)), rest⟩
theorem row_blk {w : World} {B : Nat} {e : TypeId} {n : Nat} {v : Value} {xs : List Value} (hr : w.ownsRow B e 1 v n xs) {k : Nat} (hk : v.ownBlock = some k) : B ≤ k ∧ k < w.heap.size ∧ ∃ c, w.heap[k]? = some (.cells c e (0, 0)) := by
  rcases hr.2 with ⟨he, _⟩ | ⟨g, cap, cur, he, hb, hg, rest⟩
  · rw [he] at hk; cases hk
  · rw [he] at hk; cases hk; exact ⟨hb, blk_lt hg, cur, hg⟩
theorem row_get {w : World} {B : Nat} {v : Value} {xs : List Int} (hr : w.ownsRow B 3 1 v xs.length (xs.map (Value.int .i64))) (i : Nat) (x : Int) (hx : xs[i]? = some x) : ∃ g cap, v = .slice (some ⟨g, 0, none⟩) xs.length cap ∧ w.cell? ⟨g, i, none⟩ = some (.int .i64 x) := by
  have hi := (List.getElem?_eq_some_iff.1 hx).1
  rcases hr.2 with ⟨_, h0⟩ | ⟨g, cap, cur, he, hbg, hg, rest⟩
  · omega
  · have := hr.cells (g := g) (by rw [he]; rfl) i _ (by rw [List.getElem?_map, hx]; rfl)
    rw [Go.WideShapes.add_plain, Nat.zero_add] at this
    exact ⟨g, cap, he, this⟩
theorem FR.ofKeep {p bl : Nat} {F : Nat → Prop} {w w' : World} (h : Keep F w w') (hF : ∀ k c e z, F k → w.heap[k]? = some (.cells c e z) → e = 3) : FR p bl w w' := fun k c e z h1 _ _ hk => h.blk hk (fun hf => h1 (hF k c e z hf hk))
theorem IMapAt.nob {w : World} {b : Nat} {l : IM} (h : IMapAt w b l) {c : Array Value} {e : TypeId} {z : Nat × Nat} : w.heap[b]? ≠ some (.cells c e z) := by
  obtain ⟨es, c', h1, _⟩ := h
  rw [h1]; simp
theorem row_int {w : World} {B : Nat} {n : Nat} {v : Value} {xs : List Value} (hr : w.ownsRow B 3 1 v n xs) : ∀ k c e z, v.ownBlock = some k → w.heap[k]? = some (.cells c e z) → e = 3 := fun k c e z hk hc => by
  obtain ⟨_, _, c', h⟩ := row_blk hr hk
  rw [h] at hc; simp only [Option.some.injEq, Obj.cells.injEq] at hc; exact hc.2.1.symm
theorem fates_law (n : Int) (va : Value) (la : List A3) (wh : Bool) (hn0 : 0 ≤ n) (hn1 : n < 256) (w : World) (hA : AS3 w va la) :
    Calls Try.prog 7 #[.int .u8 n, va, .bool wh] w fun e w' => e = .returned (.bool true) ∧ Below w.heap.size w w' := by
  have HGA := Lib.hid (great3_any va la w hA)
  obtain ⟨ga, hga⟩ : ∃ ga, ga = gr3 la := ⟨_, rfl⟩
  rw [← hga] at HGA
  obtain ⟨aa, ca, rfl, hma⟩ := hA.shape
  have hma' : la.length ≤ 9223372036854775807 := by unfold maxLen at hma; omega
  have HA := Lib.hid hA
  obtain ⟨m, hm⟩ : ∃ m : Nat, 1 + n % 12 = (m : Int) := ⟨(1 + n % 12).toNat, by omega⟩
  have hm1 : 1 ≤ m := by omega
  have hm12 : m ≤ 12 := by omega
  have HM := Lib.hid hm
  have HN := Lib.hid (x_new m w w (Below.refl _ _) hm1 (by omega))
  unfold dV at HN
  clear hA hm
  by_cases g1 : 0 < ga
  · have i1 : decide (ga > 0) = true := decide_eq_true g1
    go_enter Try.func7, Try.ntmps7
    go_wp2_with fail
    refine HGA.out.mono ?_
    rintro e w1 ⟨rfl, rfl⟩
    go_wp2_with fail
    go_ret
    exact ⟨rfl, Below.refl _ _⟩
  have i1 : decide (ga > 0) = false := decide_eq_false g1
  have hla60 : la.length ≤ 60 := by
    rw [hga] at g1
    unfold gr3 at g1
    split at g1 <;> omega
  clear hga
  have hmm : ∀ w, (Instr.makeMap 58 none).run Try.prog w = .ok (.map (some w.heap.size)) (w.alloc (.map #[] 0)) := fun w => by kernel_rfl
  go_enter Try.func7, Try.ntmps7
  go_wp2_with fail
  refine HGA.out.mono ?_
  rintro e w1 ⟨rfl, hw⟩
  obtain rfl := hw.symm
  go_wp2_with fail
  rw [HM.out]
  refine HN.out.mono ?_
  rintro e w1 ⟨p, bl, bw, rfl, hx, _⟩
  have HX1 := Lib.hid hx
  clear hx HN HGA i1 g1
  go_wp2_with fail
  refine (x_flush HX1.out (by simp [newS]; omega)).mono ?_
  rintro e w2 ⟨rfl, hx⟩
  rw [(new_flush m).1]
  rw [(new_flush m).2] at hx
  have HX2 := Lib.hid hx
  clear hx HX1
  go_wp2_with fail
  refine (all_live HX2.out rfl).mono ?_
  rintro e w3 ⟨flv, rfl, hpl, hx, hb⟩
  obtain ⟨T, hT⟩ : ∃ T, T = newS m := ⟨_, rfl⟩
  have HTL := Lib.hid (show T.L.length = m by rw [hT]; simp [newS])
  have HTW := Lib.hid (show T.W = [] by rw [hT]; rfl)
  have HTF := Lib.hid (show T.fuse = -1 ∧ T.dead = false by rw [hT]; exact ⟨rfl, rfl⟩)
  rw [← hT] at hpl hx
  have hpb : p < w2.heap.size ∧ bl < w2.heap.size := by
    obtain ⟨ov, d1, _⟩ := HX2.out
    exact ⟨d1.lt p (.inl rfl), d1.lt bl (.inr (.inl rfl))⟩
  have HPB := Lib.hid hpb
  obtain ⟨FL, hFL⟩ : ∃ FL, FL = (List.range T.L.length).map fun (k : Nat) => readP T k := ⟨_, rfl⟩
  rw [← hFL] at hpl
  have HFL := Lib.hid hFL
  obtain ⟨fla, flc, rfl⟩ := hpl.shape
  have HPL3 := Lib.hid (hpl.below ((Below.refl w3.heap.size w3).alloc (Nat.le_refl _) (.map #[] 0)))
  have HX3 := Lib.hid ((hx.off (fun k => k = w3.heap.size ∨ (Value.slice none 0 0).ownBlock = some k) (fun k hk => by rcases hk with rfl | hk; exact Nat.le_refl _; cases hk)).alloc (.map #[] 0))
  have HM3 := Lib.hid (show IMapAt (w3.alloc (.map #[] 0)) w3.heap.size [] from IMapAt.made w3)
  have hw3 : w.heap.size ≤ w3.heap.size := hx.low.size
  clear hpl hx hb hT HX2 hFL
  go_wp2_with fail
  go_loopw [10, 12] (fun v s wr => ∃ (i : Nat) (S : DS) (sm : IM), i ≤ la.length ∧ s = .int .i64 i ∧ Hid (S.L = T.L ∧ S.fuse = -1 ∧ S.dead = false ∧ (S.W.map (·.1)).length ≤ i) ∧
      Hid (wr.ownsRow (w3.heap.size + 1) 3 1 v (S.W.map (·.1)).length ((S.W.map (·.1)).map (Value.int .i64))) ∧ Hid (IMapAt wr w3.heap.size sm ∧ Seen sm (S.W.map (·.1))) ∧ Hid (DXA (fun k => k = w3.heap.size ∨ v.ownBlock = some k) w wr p bl bw S) ∧
      Hid (PL wr w2.heap.size (.slice fla FL.length flc) FL)) (fun v s _ => la.length - (intOf s).toNat)
  case atStart => exact ⟨0, T, [], by omega, rfl, Lib.hid ⟨rfl, HTF.out.1, HTF.out.2, by rw [HTW.out]; simp⟩, Lib.hid (by rw [HTW.out]; exact World.ownsRow_nil _ _ _ _), Lib.hid ⟨HM3.out, by rw [HTW.out]; exact Seen.nil⟩, HX3, HPL3⟩
  case round =>
    clear HX3 HPL3 HM3
    obtain ⟨i, S, sm, hi, rfl, HJ, HO, HS, HX, HP⟩ := hrel
    have hsz3 : w3.heap.size < wr.heap.size := HS.out.1.lt
    by_cases hlt : i < la.length
    · obtain ⟨x, hx⟩ : ∃ x, la[i]? = some x := ⟨_, List.getElem?_eq_getElem hlt⟩
      obtain ⟨b0, o0, c0, he, k0, k1, k2, k3, k4, k5⟩ := (HA.out.below HX.out.dx.low).at_ hx
      injection he with he _ hec
      subst he; subst hec
      have hok := HA.out.ok hx
      have HOK := Lib.hid hok
      have hAlt : ∀ k, (k = w3.heap.size ∨ u10.ownBlock = some k) → k < wr.heap.size := by
        rintro k (rfl | hk)
        · exact hsz3
        · exact (row_blk HO.out hk).2.1
      have hd := fun h => does0_any x hok HX.out hAlt h
      have HXX := Lib.hid hx
      have hoq := hok.doo
      obtain ⟨doo, at_, b, c, s, xv, fates⟩ := x
      obtain ⟨fa, fc, hfv, _⟩ := hok.is
      simp only at hfv
      subst hfv
      simp only [A3.cells] at hd k0 k1 k2 k3 k4 k5 hoq
      unfold dV at hd
      have HD := Lib.hid hd
      have j1 : decide ((i : Int) < (la.length : Int)) = true := decide_eq_true (by omega)
      clear hd hx hok
      by_cases hdo : doo % 7 = 0
      · have j2 : (doo % 7 == 0) = true := beq_iff_eq.2 hdo
        go_wp2_with fail
        refine (HD.out hdo).mono ?_
        rintro e w4 ⟨rfl, hx4, hfk⟩
        obtain ⟨hw1, hw2, hw3', hw4, hw5, hw6⟩ := write_live HJ.out.2.1 HJ.out.2.2.1 at_ _ (pgB_size b c s)
        have HO4 := Lib.hid (hfk.2.row HO.out (fun k hk => .inr hk))
        have HS4 := Lib.hid (hfk.2.imap HS.out.1 (.inl rfl))
        have HP4 := Lib.hid (HP.out.fr hfk.1 HPB.out.1 HPB.out.2)
        obtain ⟨b1, o1, c1, he, q0, q1, q2, q3, q4, q5⟩ := (HA.out.below hx4.dx.low).at_ HXX.out
        injection he with he _ hec
        injection he with he
        injection he with he1 he2 he3
        subst he1; subst he2; subst hec
        simp only at q0 q1 q2 q3 q4 q5
        have HX4 := Lib.hid hx4
        have hst : w3.heap.size < w4.heap.size := HS4.out.lt
        by_cases hE : writeE S at_ (pgB b c s) = 0
        · rw [hE]
          have hlk := HS4.out.lookupZ (P := Try.prog) (.bool false) (t := 58) (kt := 3) (et := 4) (by kernel_rfl) (by kernel_rfl) zBool at_
          rw [HS.out.2.look] at hlk
          have hkeys := hw5 hE
          rw [wget_some] at hkeys
          by_cases hin : at_ ∈ S.W.map (·.1)
          · rw [decide_eq_true hin] at hlk hkeys
            rw [if_pos rfl] at hkeys
            have HKE := Lib.hid hkeys
            have HW := Lib.hid (show _ ∧ _ ∧ _ from ⟨hw2, hw3', hw4⟩)
            clear hx4 hfk hkeys hw1 hw2 hw3' hw4 hw5 hw6 HD HX hAlt
            go_wp2_with fail
            exact ⟨⟨i + 1, _, sm, by omega, rfl, Lib.hid ⟨HW.out.1.trans HJ.out.1, HW.out.2.1, HW.out.2.2, by rw [HKE.out]; have := HJ.out.2.2.2; omega⟩, Lib.hid (by rw [HKE.out]; exact HO4.out), Lib.hid (by rw [HKE.out]; exact ⟨HS4.out, HS.out.2⟩), HX4, HP4⟩, by simp [intOf]; omega⟩
          · rw [decide_eq_false hin] at hlk hkeys
            rw [if_neg (by decide)] at hkeys
            have HKE := Lib.hid hkeys
            have HW := Lib.hid (show _ ∧ _ ∧ _ from ⟨hw2, hw3', hw4⟩)
            obtain ⟨w5, hup, hm5, hk5⟩ := HS4.out.update (P := Try.prog) (t := 58) (kt := 3) (et := 4) (by kernel_rfl) (by kernel_rfl) at_ (.bool true)
            have hk5' := hk5 w4 (Keep.refl _ _)
            have HM5 := Lib.hid hm5
            have hx5 := HX4.out.mine hk5' (fun i hi => .inl hi) (fun i hi => by rw [hi]; exact hw3) (fun i c z hc hi => by rw [hi] at hc; exact HS4.out.nob hc)
            have HX5 := Lib.hid hx5
            have HO5 := Lib.hid (row_keep hk5' HO4.out (fun k hk e => by have := (row_blk HO4.out hk).1; omega))
            have HP5 := Lib.hid (HP4.out.fr (FR.ofKeep (p := p) (bl := bl) hk5' (fun k c e z hf hc => by rw [hf] at hc; exact absurd hc HS4.out.nob)) HPB.out.1 HPB.out.2)
            obtain ⟨b2, o2, c2, he, _, r1, _⟩ := (HA.out.below hx5.dx.low).at_ HXX.out
            injection he with he _ hec
            injection he with he
            injection he with he1 he2 he3
            subst he1; subst he2; subst hec
            simp only at r1
            have hs5 : w3.heap.size < w5.heap.size := HM5.out.lt
            have hkl : (S.W.map (·.1)).length ≤ 1000000 := by have := HJ.out.2.2.2; omega
            clear hx4 hfk hkeys hw1 hw2 hw3' hw4 hw5 hw6 HD HX hAlt hm5 hk5 hk5' hx5
            go_wp2_with (at_builtin; go_must (refine wp_app_int (w3.heap.size + 1) rfl _ _ rfl u10 (S.W.map (·.1)) at_ rfl rfl HO5.out (by omega) hkl ?_); intro v6 w6 ho6 hk6 hn6; have HO6 := Lib.hid ho6; have HK6 := Lib.hid hk6; have HN6 := Lib.hid hn6; clear ho6 hk6 hn6)
            have hX6 : DXA (fun k => k = w3.heap.size ∨ v6.ownBlock = some k) w w6 p bl bw _ := ((HX5.out.change (A' := fun k => (k = w3.heap.size ∨ u10.ownBlock = some k) ∨ w5.heap.size ≤ k) (fun i hi => hi)).mine HK6.out (fun i hi => .inl (.inr hi)) (fun i hi => by have := (row_blk HO5.out hi).1; omega) (fun i c z hc hi => by have := row_int HO5.out i c _ z hi hc; exact absurd this (by decide))).change (fun i hi => .inl (by
              rcases hi with hi | hi
              · exact .inl (.inl hi)
              · rcases HN6.out i hi with h | h
                · exact .inl (.inr h)
                · exact .inr h))
            refine ⟨⟨i + 1, _, IM.put at_ (.bool true) sm, by omega, rfl, Lib.hid ⟨HW.out.1.trans HJ.out.1, HW.out.2.1, HW.out.2.2, by rw [HKE.out, List.length_append, List.length_singleton]; have := HJ.out.2.2.2; omega⟩, Lib.hid (by rw [HKE.out]; exact HO6.out), Lib.hid ⟨HM5.out.keep HK6.out (fun hk => by have := (row_blk HO5.out hk).1; omega), by rw [HKE.out]; exact HS.out.2.put at_⟩, Lib.hid hX6, Lib.hid (HP5.out.fr (FR.ofKeep (p := p) (bl := bl) HK6.out (row_int HO5.out)) HPB.out.1 HPB.out.2)⟩, by simp [intOf]; omega⟩
        · rw [hw6 hE] at HX4
          have j3 : (writeE S at_ (pgB b c s) == 0) = false := beq_eq_false_iff_ne.2 hE
          clear hx4 hfk hw1 hw2 hw3' hw4 hw5 hw6 HD HX hAlt
          obtain ⟨we, hwe⟩ : ∃ we, we = writeE S at_ (pgB b c s) := ⟨_, rfl⟩
          rw [← hwe] at j3 ⊢
          clear hwe
          go_wp2_with fail
          exact ⟨⟨i + 1, S, sm, by omega, rfl, Lib.hid ⟨HJ.out.1, HJ.out.2.1, HJ.out.2.2.1, by have := HJ.out.2.2.2; omega⟩, HO4, Lib.hid ⟨HS4.out, HS.out.2⟩, HX4, HP4⟩, by simp [intOf]; omega⟩
      · have j2 : (doo % 7 == 0) = false := beq_eq_false_iff_ne.2 hdo
        go_wp2_with fail
        exact ⟨⟨i + 1, S, sm, by omega, rfl, Lib.hid ⟨HJ.out.1, HJ.out.2.1, HJ.out.2.2.1, by have := HJ.out.2.2.2; omega⟩, HO, HS, HX, HP⟩, by simp [intOf]; omega⟩
    · obtain rfl : i = la.length := by omega
      obtain ⟨wb, rfl⟩ : ∃ wb : World, wb = wr := ⟨_, rfl⟩
      have j1 : decide ((la.length : Int) < (la.length : Int)) = false := decide_eq_false (by omega)
      have HOK := Lib.hid HX.out.dx.ok
      have HWL := Lib.hid (show S.W.length ≤ 60 by have := HJ.out.2.2.2; rw [List.length_map] at this; omega)
      obtain ⟨ks, hks⟩ : ∃ ks, ks = S.W.map (·.1) := ⟨_, rfl⟩
      have HKS := Lib.hid hks
      rw [← hks] at HO
      have hkl : S.W.length = ks.length := by rw [hks, List.length_map]
      have HKL := Lib.hid hkl
      obtain ⟨oa, oc, rfl⟩ := ownsRow_shape HO.out
      have HDX := Lib.hid HX.out.dx
      clear hks hkl
      go_wp2_with fail
      refine (x_waits HDX.out).mono ?_
      rintro e w4 ⟨wv, rfl, hrow, hb, hx⟩
      rw [HKL.out, ← HKS.out] at hrow
      obtain ⟨wwa, wwc, rfl⟩ := ownsRow_shape hrow
      have HW4 := Lib.hid hrow
      have HO4 := Lib.hid (row_keep (Keep.ofBelow hb (fun _ => False)) HO.out (fun _ _ h => h))
      have HX4 := Lib.hid (hx.off (fun k => (Value.slice none 0 0).ownBlock = some k) (fun k hk => by cases hk))
      have HP4 := Lib.hid (HP.out.below hb)
      have hwb4 : wb.heap.size ≤ w4.heap.size := hb.size
      have hwlt : ∀ k, (Value.slice oa ks.length oc).ownBlock = some k → k < wb.heap.size := fun k hk => (row_blk HO.out hk).2.1
      have HWLT := Lib.hid hwlt
      have HWL4 := Lib.hid (show ∀ k, (Value.slice wwa ks.length wwc).ownBlock = some k → k < w4.heap.size from fun k hk => (row_blk hrow hk).2.1)
      have hw4 : w.heap.size ≤ w4.heap.size := hx.low.size
      have hk60 : ks.length ≤ 60 := by rw [← HKL.out]; exact HWL.out
      clear hrow hb hx HX HP HDX HO HS hwlt
      go_wp2_with fail
      go_loopw [14, 15] (fun v s wr => ∃ i : Nat, i ≤ ks.length ∧ s = .int .i64 i ∧ Hid (wr.ownsRow w4.heap.size 3 1 v (List.replicate i (255 : Int)).length ((List.replicate i (255 : Int)).map (Value.int .i64))) ∧
        Hid (DXA (fun k => v.ownBlock = some k) w wr p bl bw S) ∧ Hid (PL wr w2.heap.size (.slice fla FL.length flc) FL) ∧ Hid (wr.ownsRow wb.heap.size 3 1 (.slice wwa ks.length wwc) ks.length (ks.map (Value.int .i64))) ∧
        Hid (wr.ownsRow (w3.heap.size + 1) 3 1 (.slice oa ks.length oc) ks.length (ks.map (Value.int .i64))) ∧ Hid (w4.heap.size ≤ wr.heap.size)) (fun _ s _ => ks.length - (intOf s).toNat)
      case atStart => exact ⟨0, by omega, rfl, Lib.hid (World.ownsRow_nil _ _ _ _), HX4, HP4, HW4, HO4, Lib.hid (Nat.le_refl _)⟩
      case round =>
        obtain ⟨i, hi, rfl, HF, HX, HP, HW, HO, HSZ⟩ := hrel
        have hsz : w4.heap.size ≤ wr.heap.size := HSZ.out
        by_cases hlt : i < ks.length
        · have j2 : decide ((i : Int) < (ks.length : Int)) = true := decide_eq_true (by omega)
          obtain ⟨x, hx⟩ : ∃ x, ks[i]? = some x := ⟨_, List.getElem?_eq_getElem hlt⟩
          obtain ⟨g1, d1, he, c1⟩ := row_get HW.out i x hx
          injection he with he _ hec
          subst he; subst hec
          obtain ⟨g2, d2, he, c2⟩ := row_get HO.out i x hx
          injection he with he _ hec
          subst he; subst hec
          go_wp2_with fail
          go_quiet (fail)
          go_wp2_with (at_builtin; go_must (refine wp_app_int w4.heap.size rfl _ _ rfl u14 (List.replicate i (255 : Int)) 255 rfl rfl (row_keep (Keep.ofBelow (below_drewN_of _ _) (fun _ => False)) HF.out (fun _ _ h => h)) (Nat.le_trans hsz (below_drewN_of _ _).size) (by rw [List.length_replicate]; omega) ?_); intro v6 w6 ho6 hk6 hn6; have HO6 := Lib.hid ho6; have HK6 := Lib.hid hk6; have HN6 := Lib.hid hn6; clear ho6 hk6 hn6)
          have hsq : (wr.drewN nq).heap.size = wr.heap.size := by simp
          have hbq : Below wr.heap.size wr (wr.drewN nq) := below_drewN_of _ _
          have hfq := row_keep (Keep.ofBelow hbq (fun _ => False)) HF.out (fun _ _ h => h)
          have hX6 : DXA (fun k => v6.ownBlock = some k) w w6 p bl bw S := (((HX.out.below hbq).change (A' := fun k => u14.ownBlock = some k ∨ (wr.drewN nq).heap.size ≤ k) (fun i hi => hi)).mine HK6.out (fun i hi => .inl hi) (fun i hi => by have := (row_blk hfq hi).1; omega) (fun i c z hc hi => by have := row_int hfq i c _ z hi hc; exact absurd this (by decide))).change (fun i hi => .inl (by
              rcases HN6.out i hi with h | h
              · exact .inl h
              · exact .inr (by rw [hsq]; exact h)))
          have hrw : ∀ (v : Value) (xs : List Value) (B n : Nat), wr.ownsRow B 3 1 v n xs → (∀ k, v.ownBlock = some k → k < w4.heap.size) → w6.ownsRow B 3 1 v n xs := fun v xs B n hr hk => row_keep HK6.out (row_keep (Keep.ofBelow hbq (fun _ => False)) hr (fun _ _ h => h)) (fun k hk' e => by have := (row_blk hfq e).1; have := hk k hk'; omega)
          refine ⟨⟨i + 1, by omega, by go_num, Lib.hid ?_, Lib.hid hX6, Lib.hid ((HP.out.below hbq).fr (FR.ofKeep (p := p) (bl := bl) HK6.out (row_int hfq)) HPB.out.1 HPB.out.2), Lib.hid (hrw _ _ _ _ HW.out (fun k hk => HWL4.out k hk)), Lib.hid (hrw _ _ _ _ HO.out (fun k hk => by have := HWLT.out k hk; omega)), Lib.hid ?_⟩, by simp [intOf]; omega⟩
          · rw [List.length_replicate, List.replicate_succ', List.map_append, List.map_replicate]
            first | exact HO6.out | simpa using HO6.out
          · have := HK6.out.size; omega
        · obtain rfl : i = ks.length := by omega
          obtain ⟨wc, rfl⟩ : ∃ wc : World, wc = wr := ⟨_, rfl⟩
          have j2 : decide ((ks.length : Int) < (ks.length : Int)) = false := decide_eq_false (by omega)
          cases wh with
          | true =>
            have HDX := Lib.hid HX.out.dx
            have HLM := Lib.hid (show S.L.length = m by rw [HJ.out.1]; exact HTL.out)
            have HPB5 := Lib.hid (show p < wc.heap.size ∧ bl < wc.heap.size by
              obtain ⟨ov, d1, _⟩ := HX.out.dx
              exact ⟨d1.lt p (.inl rfl), d1.lt bl (.inr (.inl rfl))⟩)
            clear HW HO HP
            go_wp2_with fail
            refine (all_live HDX.out HJ.out.2.2.1).mono ?_
            rintro e w5 ⟨wrv, rfl, hpl, hx, hb⟩
            have HW5 := Lib.hid hpl
            have HF5 := Lib.hid (row_keep (Keep.ofBelow hb (fun _ => False)) HF.out (fun _ _ h => h))
            have HX5 := Lib.hid (HX.out.below hb)
            clear hpl hx hb HX HDX HF
            go_wp2_with fail
            refine (a_restart _ (List.replicate ks.length 255) HX5.out (fun k hk => (row_blk HF5.out hk).2.1) (IS.ofRow HF5.out) (fun x hx => by rw [List.eq_of_mem_replicate hx]; decide) (fun _ k hk => hk)).mono ?_
            rintro e w6 ⟨rfl, hx, hfk⟩
            have HX6 := Lib.hid hx.dx
            have HW6 := Lib.hid (HW5.out.fr hfk.1 HPB5.out.1 HPB5.out.2)
            clear hx hfk HX5 HW5 HF5
            rw [← HKL.out] at HX6
            go_wp2_with fail
            refine (all_live HX6.out rfl).mono ?_
            rintro e w7 ⟨nv, rfl, hpl, hx, hb⟩
            rw [rows_all HOK.out] at hpl
            have HN7 := Lib.hid hpl
            have HX7 := Lib.hid hx
            have HW7 := Lib.hid (HW6.out.below hb)
            clear hpl hx hb HX6 HW6
            go_wp2_with fail
            refine (same_any _ _ _ _ _ _ _ HN7.out HW7.out (by rw [List.length_map, List.length_range]; have := HLM.out; omega) (by rw [List.length_map, List.length_range]; have := HLM.out; omega)).mono ?_
            rintro e w8 ⟨rfl, hb⟩
            rw [decide_eq_true rfl]
            have HX8 := Lib.hid (HX7.out.below hb)
            clear hb HX7 HN7 HW7
            go_wp2_with fail
            refine (x_waits HX8.out).mono ?_
            rintro e w9 ⟨wv, rfl, hrow, hb, hx⟩
            obtain ⟨ya, yc, rfl⟩ := ownsRow_shape hrow
            rw [show (restartS S (List.replicate (List.length S.W) 255)).W.length = 0 from rfl]
            have HX9 := Lib.hid hx
            clear hrow hb hx HX8
            go_wp2_with fail
            refine (x_dead HX9.out).mono ?_
            rintro e w10 ⟨rfl, hw⟩
            obtain rfl := hw.symm
            rw [show (restartS S (List.replicate (List.length S.W) 255)).dead = false from rfl]
            go_wp2_with fail
            refine (goes_any _).mono ?_
            rintro e w11 ⟨rfl, hb⟩
            have HB10 := Lib.hid (HX9.out.below hb).low
            clear hb HX9
            go_wp2_with fail
            go_ret
            exact ⟨rfl, HB10.out⟩
          | false =>
            have HX' := Lib.hid (HX.out.dx.off (fun k => (Value.slice none 0 0).ownBlock = some k) (fun k hk => by cases hk))
            clear HX HF HW HO
            go_wp2_with fail
            refine (a_restart (.slice none 0 0) [] HX'.out (fun k hk => by cases hk) ⟨none, 0, rfl, Nat.le_refl _, by decide, .inl rfl⟩ (by simp) (fun h => absurd rfl h)).mono ?_
            rintro e w5 ⟨rfl, hx, hfk⟩
            have HX5 := Lib.hid hx.dx
            have HP5 := Lib.hid (HP.out.fr hfk.1 HPB.out.1 HPB.out.2)
            clear hx hfk HX' HP
            go_wp2_with fail
            refine (all_live HX5.out rfl).mono ?_
            rintro e w6 ⟨nv, rfl, hpl, hx, hb⟩
            rw [rows_same HOK.out HJ.out.1 HTW.out, ← HFL.out] at hpl
            have HN6 := Lib.hid hpl
            have HX6 := Lib.hid hx
            have HP6 := Lib.hid (HP5.out.below hb)
            clear hpl hx hb HX5 HP5
            go_wp2_with fail
            refine (same_any _ _ _ _ _ _ _ HN6.out HP6.out (by rw [HFL.out, List.length_map, List.length_range]; have := HTL.out; omega) (by rw [HFL.out, List.length_map, List.length_range]; have := HTL.out; omega)).mono ?_
            rintro e w7 ⟨rfl, hb⟩
            rw [decide_eq_true rfl]
            have HX7 := Lib.hid (HX6.out.below hb)
            clear hb HX6 HN6 HP6
            go_wp2_with fail
            refine (x_waits HX7.out).mono ?_
            rintro e w8 ⟨wv, rfl, hrow, hb, hx⟩
            obtain ⟨ya, yc, rfl⟩ := ownsRow_shape hrow
            rw [show (restartS S []).W.length = 0 from rfl]
            have HX8 := Lib.hid hx
            clear hrow hb hx HX7
            go_wp2_with fail
            refine (x_dead HX8.out).mono ?_
            rintro e w9 ⟨rfl, hw⟩
            obtain rfl := hw.symm
            rw [show (restartS S []).dead = false from rfl]
            go_wp2_with fail
            refine (goes_any _).mono ?_
            rintro e w10 ⟨rfl, hb⟩
            have HB10 := Lib.hid (HX8.out.below hb).low
            clear hb HX8
            go_wp2_with fail
            go_ret
            exact ⟨rfl, HB10.out⟩
end Go.Proofs.Ytpclfnamknioaaa
