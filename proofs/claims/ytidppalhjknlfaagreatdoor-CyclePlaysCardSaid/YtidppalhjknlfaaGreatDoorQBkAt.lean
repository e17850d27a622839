/- The document's book: At. -/
import Derived.Test.YtidppalhjknlfaaGreatDoorQBkDef
namespace Go.Proofs.YtidppalhjknlfaaGreatDoor
open Go.RowKit
set_option maxRecDepth 100000
set_option maxHeartbeats 4000000
set_option linter.unusedVariables false
set_option linter.unusedSimpArgs false
/-- the last that began by a day -/
def lastP (L : List Sg) (d : Int) (j : Nat) : Int := ((((L.take j).filter fun g => decide (g.day ≤ d)).getLast?).map Sg.plan).getD 0
theorem lastP_yes {L : List Sg} {d : Int} {j : Nat} {x : Sg} (hx : L[j]? = some x) (hd : x.day ≤ d) : lastP L d (j + 1) = x.plan := by
  unfold lastP
  rw [List.take_add_one, hx, List.filter_append]
  simp [hd]
theorem lastP_no {L : List Sg} {d : Int} {j : Nat} {x : Sg} (hx : L[j]? = some x) (hd : ¬ x.day ≤ d) : lastP L d (j + 1) = lastP L d j := by
  unfold lastP
  rw [List.take_add_one, hx, List.filter_append]
  simp [hd]
theorem lastP_all {L : List Sg} {d : Int} (hu : Up L) : lastP L d L.length = ((upto L d).getLast?.map Sg.plan).getD 0 := by
  unfold lastP
  rw [List.take_length, upto_filter hu]
/-- what the book holds is sound -/
def TVok (ts : List TV) : Prop := ∀ x ∈ ts, Up x.T.L ∧ x.T.L ≠ [] ∧ x.T.L.length ≤ 1000000
theorem tfV_mem {ts : List TV} {t : Int} {x : TV} (h : tfV ts t = some x) : x ∈ ts ∧ x.T.id = t := ⟨List.mem_of_find?_eq_some h, by have := List.find?_some (show List.find? _ _ = _ from h); simpa using this⟩
theorem rat21_any (base q : Nat) (pv tv : Value) (ps : List PV) (ts : List TV) (t d : Int) (w : World) (h : RB base w q pv tv ps ts) (hl : ts.length ≤ 1000000) (hok : TVok ts) :
    Calls Tryz.prog 15 #[.pointer (some ⟨q, 0, none⟩), .int .u32 t, .int .i64 d] w fun e w' => e = .returned (.tuple #[.int .u32 (atV (atP (tsOf ts) t d)), .int .i64 (atE (atP (tsOf ts) t d))]) ∧ w' = w := by
  have HT := Lib.hid (rten_any base q pv tv ps ts t w h hl)
  cases hf : tfV ts t with
  | none =>
    have e0 : atP (tsOf ts) t d = none := by unfold atP; rw [tfV_eq, hf]; rfl
    rw [e0, show atV none = 0 from rfl, show atE none = 4 from rfl]
    rw [hf] at HT
    clear h hf e0
    go_enter Tryz.func15, Tryz.ntmps15
    go_wp2_with fail
    refine HT.out.mono ?_
    rintro e w1 ⟨rfl, hw⟩
    obtain rfl := hw.symm
    clear hw HT
    go_wp2
    go_ret2
    exact ⟨rfl, rfl⟩
  | some x =>
    rw [hf] at HT
    obtain ⟨hx, _⟩ := tfV_mem hf
    obtain ⟨hup, hne, hll⟩ := hok x hx
    have hti := h.tis x hx
    have hsg := hti.seg
    have e0 : atP (tsOf ts) t d = (upto x.T.L d).getLast?.map Sg.plan := by unfold atP; rw [tfV_eq, hf]; rfl
    obtain ⟨V, hV⟩ : ∃ V, V = atV (atP (tsOf ts) t d) := ⟨_, rfl⟩
    obtain ⟨E, hE⟩ : ∃ E, E = atE (atP (tsOf ts) t d) := ⟨_, rfl⟩
    rw [← hV, ← hE]
    rw [e0] at hV hE
    obtain ⟨g0, hg0⟩ : ∃ g0, x.T.L[0]? = some g0 := ⟨_, List.getElem?_eq_getElem (by have := List.length_pos_iff.2 hne; omega)⟩
    obtain ⟨g, off, cap, he, c0, c1⟩ := hsg.at2s hg0
    have d2 : w.cell? ⟨x.b, 2, none⟩ = some (.slice x.la x.T.L.length x.lc) := by rw [blk_cell hti.blk]; rfl
    injection he with he hx1 hx2
    rw [he] at d2
    obtain ⟨b, hb⟩ : ∃ b, b = x.b := ⟨_, rfl⟩
    obtain ⟨L, hL⟩ : ∃ L, L = x.T.L := ⟨_, rfl⟩
    have HSG := Lib.hid hsg
    rw [← hb] at d2
    rw [← hL] at d2 hV hE hup hne hll HSG hg0
    rw [show (Option.map (fun x => (⟨x.b, 0, none⟩ : Addr)) (some x)) = some ⟨b, 0, none⟩ by rw [hb]; rfl] at HT
    rw [he] at HSG
    have hlp : 0 < L.length := List.length_pos_iff.2 hne
    have HUP := Lib.hid hup
    have HV := Lib.hid hV
    have HE := Lib.hid hE
    have i0 : (0 : Int) < (L.length : Int) := by omega
    rw [show off + 0 * 2 = off by omega] at c0 c1
    have HG0 := Lib.hid hg0
    by_cases hd : d < g0.day
    · have hu0 : upto L d = [] := by
        cases L with
        | nil => rfl
        | cons a r =>
          simp at hg0; subst hg0
          unfold upto; rw [List.takeWhile_cons_of_neg (by simp; omega)]
      obtain rfl : V = 0 := by rw [HV.out, hu0]; rfl
      obtain rfl : E = 4 := by rw [HE.out, hu0]; rfl
      clear h hf e0 hx hti hsg hV hE hg0 he hx1 hx2 hb hL hup hne hll hu0 c1
      go_enter Tryz.func15, Tryz.ntmps15
      go_wp2_with fail
      refine HT.out.mono ?_
      rintro e w1 ⟨rfl, hw⟩
      obtain rfl := hw.symm
      clear hw HT
      go_wp2
      go_ret2
      exact ⟨rfl, rfl⟩
    · have hu0 : upto L d ≠ [] := by
        cases L with
        | nil => exact absurd rfl hne
        | cons a r =>
          simp at hg0; subst hg0
          unfold upto; rw [List.takeWhile_cons_of_pos (by simp; omega)]; simp
      obtain rfl : E = 0 := by
        rw [HE.out]; unfold atE
        rw [if_pos (by rw [List.getLast?_eq_some_getLast hu0]; rfl)]
      clear h hf e0 hx hti hsg hV hE hg0 he hx1 hx2 hb hL hup hne hu0 c1
      go_enter Tryz.func15, Tryz.ntmps15
      go_wp2_with fail
      refine HT.out.mono ?_
      rintro e w1 ⟨rfl, hw⟩
      obtain rfl := hw.symm
      clear hw HT
      go_wp2_with fail
      go_loop [9, 10] (fun p i => ∃ j : Nat, j ≤ L.length ∧ i = .int .i64 j ∧ p = .int .u32 (lastP L d j)) (fun _ i => L.length - (intOf i).toNat)
      case atStart => exact ⟨0, by omega, rfl, rfl⟩
      case round =>
        obtain ⟨j, hj, rfl, rfl⟩ := hrel
        by_cases hlt : j < L.length
        · obtain ⟨y, hy⟩ : ∃ y, L[j]? = some y := ⟨_, List.getElem?_eq_getElem hlt⟩
          obtain ⟨g', off', cap', he', a0, a1⟩ := HSG.out.at2s hy
          injection he' with he' hx1 hx2
          injection he' with he'
          injection he' with h1 h2
          subst h1; subst h2
          have i1 : (j : Int) < (L.length : Int) := by omega
          have HY := Lib.hid hy
          obtain ⟨P, hP⟩ : ∃ P, P = lastP L d j := ⟨_, rfl⟩
          rw [← hP]
          have HP := Lib.hid hP
          clear hx1 hx2 hP hy
          by_cases hyd : y.day ≤ d
          · go_wp2_with fail
            go_round
            case rel => exact ⟨j + 1, by omega, by go_num, by rw [lastP_yes HY.out hyd]⟩
            case measure => simp [intOf]; omega
          · go_wp2_with fail
            go_round
            case rel => exact ⟨j + 1, by omega, by go_num, by rw [lastP_no HY.out hyd, HP.out]⟩
            case measure => simp [intOf]; omega
        · obtain rfl : j = L.length := by omega
          obtain ⟨P, hP⟩ : ∃ P, P = lastP L d L.length := ⟨_, rfl⟩
          rw [← hP]
          have e5 : V = P := by rw [HV.out, hP, lastP_all HUP.out]; rfl
          subst e5
          clear hP
          go_wp2_with fail
          go_ret2
          exact ⟨rfl, rfl⟩
end Go.Proofs.YtidppalhjknlfaaGreatDoor
