/-
  YtjeldedmaanhbaaRulB: rulings: a ruling made, a ruling appealed: both sides by contracts.
-/
import Derived.Test.YtjeldedmaanhbaaRulA
import Derived.RegionTactic
import Derived.BigRegion
import Derived.Deep.DeepCutAuto
import Derived.Deep.RegionLaw
import Derived.StillTailTactics
namespace Go.Proofs.Ytjeldedmaanhbaa
open Go Go.RowKit Go.Sort
set_option linter.unusedVariables false

theorem one_pt : ∀ x : PT, ∀ u ∈ ptV x, u.oneCell' = true := by intro x u h; simp [ptV] at h; rcases h with rfl | rfl | rfl | rfl | rfl | rfl | rfl <;> rfl
/-- The last point. -/
def lastP (l : List PT) : PT := l.getD (l.length - 1) ⟨0, 0, false, 0, 0, 0, 0⟩
/-- Valid points of which the last one is in a state. -/
def lastB (l : List PT) (s : Int) : Bool := ptsB l && (decide (0 < l.length) && decide ((lastP l).st = s))
theorem last_get {l : List PT} {n : Nat} (hl : l.length = n) (h : 0 < n) : l[n - 1]? = some (lastP l) := by
  subst hl
  unfold lastP
  rw [List.getD, List.getElem?_eq_getElem (by omega)]
  rfl
theorem lastB_yes {l : List PT} {s : Int} (h : lastB l s = true) : ptsB l = true ∧ 0 < l.length ∧ (lastP l).st = s := by
  unfold lastB at h
  simp only [Bool.and_eq_true, decide_eq_true_eq] at h
  exact ⟨h.1, h.2.1, h.2.2⟩
/-- The list with another last point. -/
def withL (l : List PT) (y : PT) : List PT := l.set (l.length - 1) y
theorem withL_app {l : List PT} {n : Nat} (hl : l.length = n) (h : 0 < n) (y : PT) : withL l y = l.take (n - 1) ++ [y] := by
  subst hl
  unfold withL
  rw [List.set_eq_take_append_cons_drop, if_pos (by omega), show l.length - 1 + 1 = l.length from by omega, List.drop_length]
def rulP (l : List PT) (t : Bool) : PT := { lastP l with st := 2, ta := t }
def rulL (l : List PT) (t : Bool) : List PT := if lastB l 1 then withL l (rulP l t) else []
theorem rulL_yes {l : List PT} {t : Bool} (h : lastB l 1 = true) : rulL l t = withL l (rulP l t) := by simp [rulL, h]
theorem rulL_no {l : List PT} {t : Bool} (h : lastB l 1 = false) : rulL l t = [] := by simp [rulL, h]
def appP (l : List PT) (m : Int) : PT := { lastP l with st := 3, ap := m }
theorem appP_eq {l : List PT} {m : Int} {p : PT} (h : lastP l = p) : appP l m = ⟨p.ra, 3, p.ta, m, p.yes, p.no, p.ab⟩ := by subst h; rfl
/-- A member's number. -/
def mB (m : Int) : Bool := decide (1 ≤ m ∧ m ≤ 99)
def appG (l : List PT) (m : Int) : Bool := lastB l 2 && mB m && !((lastP l).ta && decide ((lastP l).ra = m))
def appL (l : List PT) (m : Int) : List PT := if appG l m then withL l (appP l m) else []
theorem appL_yes {l : List PT} {m : Int} (h : appG l m = true) : appL l m = withL l (appP l m) := by simp [appL, h]
theorem appL_no {l : List PT} {m : Int} (h : appG l m = false) : appL l m = [] := by simp [appL, h]
theorem withL_len (l : List PT) (y : PT) : (withL l y).length = l.length := by simp [withL]
theorem rulL_len (l : List PT) (t : Bool) : (rulL l t).length ≤ l.length := by unfold rulL; split <;> simp [withL_len]
theorem appL_len (l : List PT) (m : Int) : (appL l m).length ≤ l.length := by unfold appL; split <;> simp [withL_len]
/-- The appeal is fine just if the points with it are. -/
theorem app_ok {l : List PT} {m : Int} (h : lastB l 2 = true) (hm : 1 ≤ m ∧ m ≤ 99) : ptsB (withL l (appP l m)) = !((lastP l).ta && decide ((lastP l).ra = m)) := by
  obtain ⟨h1, h2, h3⟩ := lastB_yes h
  have hlast := last_get rfl h2
  have hok := pts_at h1 hlast
  unfold okAt at hok
  rw [Bool.and_eq_true] at hok
  have hp : PtOK (lastP l) := of_decide_eq_true hok.1
  have hlen := pts_len h1
  have hset : (withL l (appP l m))[l.length - 1]? = some (appP l m) := by unfold withL; rw [List.getElem?_set_self (by omega)]
  cases hc : ((lastP l).ta && decide ((lastP l).ra = m))
  · rw [pts_upto]
    · rw [withL_len]; simpa using hlen
    · intro i p hx
      by_cases e : i = l.length - 1
      · subst e
        rw [hset] at hx
        injection hx with hx
        subst hx
        unfold okAt
        rw [withL_len, Bool.and_eq_true]
        refine ⟨decide_eq_true ?_, by simp; omega⟩
        unfold PtOK at hp ⊢
        simp only [appP]
        rw [h3] at hp
        refine ⟨hp.1, ?_, ?_⟩
        · have := hp.2.1; omega
        · refine .inr (.inr ⟨by simp, hm, ?_, ?_⟩)
          · rintro ⟨a, b⟩
            rw [a, b] at hc
            simp at hc
          · have := hp.2.1; omega
      · unfold withL at hx
        rw [List.getElem?_set_ne (fun h => e h.symm)] at hx
        rw [withL_len]
        exact pts_at h1 hx
  · rw [pts_fails hset]
    · rfl
    · unfold okAt
      rw [Bool.and_eq_false_iff]
      refine .inl (decide_eq_false ?_)
      unfold PtOK
      simp only [appP]
      simp only [Bool.and_eq_true, decide_eq_true_eq] at hc
      rintro ⟨_, _, h | h | h⟩
      · omega
      · omega
      · exact h.2.2.1 ⟨hc.1, hc.2.symm⟩
theorem isMember_any (m : Int) (w : World) : Calls Try.prog 50 #[.int .i64 m] w fun e w' => e = .returned (.bool (mB m)) ∧ w = w' := by
  go_enter Try.func50, Try.ntmps50
  go_wp2
  all_goals go_ret
  all_goals exact ⟨ret_bool (by rw [Bool.eq_iff_iff]; first | (simp [mB]; done) | (simp [mB]; omega)), rfl⟩
theorem l7Member_any (m : Int) (w : World) : Calls Try.prog 49 #[.int .i64 m] w fun e w' => e = .returned (.bool (mB m)) ∧ w = w' := by
  go_enter Try.func49, Try.ntmps49
  go_wp2
  all_goals go_ret
  all_goals exact ⟨ret_bool (by rw [Bool.eq_iff_iff]; first | (simp [mB]; done) | (simp [mB]; omega)), rfl⟩

set_option maxRecDepth 100000 in
theorem lastIn_any (A : Option Addr) (n c : Nat) (l : List PT) (s : Int) (w : World) (ha : Rd ptV 7 w A n c l) : Calls Try.prog 45 #[.slice A n c, .int .i64 s] w fun e w' => e = .returned (.bool (lastB l s)) ∧ Below w.heap.size w w' := by
  have hm := ha.le
  have HL := Lib.hid ha.len
  go_enter Try.func45, Try.ntmps45
  go_wp2_with fail
  refine (ArePoints_any _ _ _ _ _ ha).mono ?_
  rintro e w1 ⟨rfl, b1⟩
  cases h1 : ptsB l
  · have E := Lib.hid (show lastB l s = false by unfold lastB; rw [h1]; rfl)
    go_wp2
    go_ret
    exact ⟨ret_bool E.out.symm, b1⟩
  have H1 := Lib.hid h1
  by_cases hn : 0 < n
  · obtain ⟨b, o, p, rfl, hp, c0, c1, -⟩ := (ha.below b1).pt (i := n - 1) (by omega)
    have HP : Hid (lastP l = p) := by show _ = _; have := last_get HL.out hn; rw [hp] at this; injection this with this; exact this.symm
    have E := Lib.hid (show lastB l s = decide (p.st = s) by unfold lastB; rw [H1.out, HL.out, HP.out]; simp [hn])
    clear hp ha
    go_wp2
    go_ret
    exact ⟨ret_bool (by rw [E.out]; first | rfl | (rw [Bool.eq_iff_iff]; simp)), b1⟩
  · have E := Lib.hid (show lastB l s = false by unfold lastB; rw [HL.out]; simp [hn])
    obtain rfl : n = 0 := by omega
    clear ha
    go_wp2
    go_ret
    exact ⟨ret_bool E.out.symm, b1⟩


set_option maxRecDepth 100000 in
theorem l17State_any (A : Option Addr) (n c : Nat) (l : List PT) (s : Int) (w : World) (ha : Rd ptV 7 w A n c l) : Calls Try.prog 42 #[.slice A n c, .int .i64 s] w fun e w' => e = .returned (.bool (lastB l s)) ∧ Below w.heap.size w w' := by
  have hm := ha.le
  have HL := Lib.hid ha.len
  go_enter Try.func42, Try.ntmps42
  go_wp2_with fail
  refine (l17Good_any _ _ _ _ _ ha).mono ?_
  rintro e w1 ⟨rfl, b1⟩
  cases h1 : ptsB l
  · have E := Lib.hid (show lastB l s = false by unfold lastB; rw [h1]; rfl)
    go_wp2
    go_ret
    exact ⟨ret_bool E.out.symm, b1⟩
  have H1 := Lib.hid h1
  by_cases hn : 0 < n
  · obtain ⟨b, o, p, rfl, hp, c0, c1, -⟩ := (ha.below b1).pt (i := n - 1) (by omega)
    have HP : Hid (lastP l = p) := by show _ = _; have := last_get HL.out hn; rw [hp] at this; injection this with this; exact this.symm
    have E := Lib.hid (show lastB l s = decide (p.st = s) by unfold lastB; rw [H1.out, HL.out, HP.out]; simp [hn])
    clear hp ha
    go_wp2
    go_ret
    exact ⟨ret_bool (by rw [E.out]; first | rfl | (rw [Bool.eq_iff_iff]; simp)), b1⟩
  · have E := Lib.hid (show lastB l s = false by unfold lastB; rw [HL.out]; simp [hn])
    obtain rfl : n = 0 := by omega
    clear ha
    go_wp2
    go_ret
    exact ⟨ret_bool E.out.symm, b1⟩

theorem ret_sl_bool {A : Option Addr} {n c : Nat} {b d : Bool} (h : b = d) : Ending.returned (.tuple #[.slice A n c, .bool b]) = .returned (.tuple #[.slice A n c, .bool d]) := by rw [h]


set_option maxRecDepth 100000 in
set_option maxHeartbeats 1000000 in
theorem closeRule_any (g n d k q base : Nat) (l : List PT) (p : PT) (t : Bool) (w : World) (ho : Own ptV 7 w base 53 (some ⟨g, 0, none⟩) n d l) (hx : l[k]? = some p) (hq : w.cell? ⟨q, 0, none⟩ = some (.bool t)) (hqg : ¬(q = g)) :
    Calls Try.prog 47 #[.pointer (some ⟨g, k * 7, none⟩), .pointer (some ⟨q, 0, none⟩)] w fun e w' => (∃ v, e = .returned v) ∧ Own ptV 7 w' base 53 (some ⟨g, 0, none⟩) n d (l.set k { p with st := 2, ta := t }) ∧ w.grownBy w' (some g) := by
  have p1 := ho.cell ptV_len (j := 1) hx rfl
  have f1 := ho.frozen (k * 7 + 1)
  have p2 := ho.cell ptV_len (j := 2) hx rfl
  have f2 := ho.frozen (k * 7 + 2)
  have hkl := (List.getElem?_eq_some_iff.1 hx).1
  have hqg' : ¬(g = q) := fun e => hqg e.symm
  have HO := Lib.hid ho
  have HX := Lib.hid hx
  clear ho hx
  go_enter Try.func47, Try.ntmps47
  go_region
  obtain ⟨x1, e1⟩ := HO.out.store ptV_len (i := k) (j := 1) HX.out (by omega) ({ p with st := 2 } : PT) (.int .i64 2) rfl
  have hx2 : (l.set k ({ p with st := 2 } : PT))[k]? = some ({ p with st := 2 } : PT) := by rw [List.getElem?_set_self hkl]
  obtain ⟨x2, e2⟩ := x1.store ptV_len (i := k) (j := 2) hx2 (by omega) ({ p with st := 2, ta := t } : PT) (.bool t) rfl
  rw [List.set_set] at x2
  go_end0
  exact ⟨⟨_, rfl⟩, x2.drew, grown_below (grown_trans e1 e2) (Below.refl _ _).drew⟩


set_option maxRecDepth 100000 in
set_option maxHeartbeats 1000000 in
theorem closeAppeal_any (g n d k q base : Nat) (l : List PT) (p : PT) (m : Int) (w : World) (ho : Own ptV 7 w base 53 (some ⟨g, 0, none⟩) n d l) (hx : l[k]? = some p) (hq : w.cell? ⟨q, 0, none⟩ = some (.int .i64 m)) (hqg : ¬(q = g)) :
    Calls Try.prog 51 #[.pointer (some ⟨g, k * 7, none⟩), .pointer (some ⟨q, 0, none⟩)] w fun e w' => (∃ v, e = .returned v) ∧ Own ptV 7 w' base 53 (some ⟨g, 0, none⟩) n d (l.set k { p with st := 3, ap := m }) ∧ w.grownBy w' (some g) := by
  have p1 := ho.cell ptV_len (j := 1) hx rfl
  have f1 := ho.frozen (k * 7 + 1)
  have p2 := ho.cell ptV_len (j := 3) hx rfl
  have f2 := ho.frozen (k * 7 + 3)
  have hkl := (List.getElem?_eq_some_iff.1 hx).1
  have hqg' : ¬(g = q) := fun e => hqg e.symm
  have HO := Lib.hid ho
  have HX := Lib.hid hx
  clear ho hx
  go_enter Try.func51, Try.ntmps51
  go_region
  obtain ⟨x1, e1⟩ := HO.out.store ptV_len (i := k) (j := 1) HX.out (by omega) ({ p with st := 3 } : PT) (.int .i64 3) rfl
  have hx2 : (l.set k ({ p with st := 3 } : PT))[k]? = some ({ p with st := 3 } : PT) := by rw [List.getElem?_set_self hkl]
  obtain ⟨x2, e2⟩ := x1.store ptV_len (i := k) (j := 3) hx2 (by omega) ({ p with st := 3, ap := m } : PT) (.int .i64 m) rfl
  rw [List.set_set] at x2
  go_end0
  exact ⟨⟨_, rfl⟩, x2.drew, grown_below (grown_trans e1 e2) (Below.refl _ _).drew⟩


set_option maxRecDepth 100000 in
set_option maxHeartbeats 2000000 in
theorem withRule_any (A : Option Addr) (n c : Nat) (l : List PT) (t : Bool) (q : Nat) (w : World) (ha : Rd ptV 7 w A n c l) (h0 : 0 < n) (hn : n ≤ 6) (hq : w.cell? ⟨q, 0, none⟩ = some (.bool t)) :
    Calls Try.prog 46 #[.slice A n c, .func (.func 47) #[] #[.pointer (some ⟨q, 0, none⟩)]] w fun e w' => (∃ B d, e = .returned (.slice B n d) ∧ Own ptV 7 w' w.heap.size 53 B n d (withL l { lastP l with st := 2, ta := t })) ∧ Below w.heap.size w w' := by
  obtain ⟨i0, hi, hz0, hz1, hz2⟩ := info_parts Try.infopt
  have HL := Lib.hid ha.len
  have hmm := ha.le
  have hqs := lt_of_cell hq
  go_enter Try.func46, Try.ntmps46
  go_wp2_with ((
     at_builtin
     refine wpList_pushAll rfl _ _ _ rfl w.heap.size 53 i0 _ 7 56 Try.underlying24 hi hz0 hz1 hz2 rfl (by omega) ptV ptV_len one_pt _ 0 0 [] rfl (Own.empty ptV 7 _ 53) _ n c l rfl (ha.alloc _) (by simp only [maxLen]; omega) (by omega) (by first | simp; done | (simp; omega)) ?_
     intro B1 d1 w2 o1 g1
     simp only [Nat.zero_add, List.nil_append] at o1
     have b2 : Below w.heap.size w w2 := (below_alloc _).grown g1 (by simp) (fun k hk => by simp [blockOf] at hk; omega)
     replace hq := cell_below b2 hq
     obtain ⟨g, rfl⟩ := o1.form (by omega)
     have hx := last_get HL.out h0
     have hgl := (o1.lt rfl).1
     have HX := Lib.hid hx
     have HO := Lib.hid o1
     have HT := Lib.hid b2
     clear hx o1 b2 ha))
  have hqg : ¬(q = g) := by omega
  refine (closeRule_any g n d1 (n - 1) q w.heap.size l (lastP l) _ w2 HO.out HX.out hq hqg).mono ?_
  rintro e w3 ⟨⟨v, rfl⟩, o3, g3⟩
  go_wp2
  go_ret
  exact ⟨⟨_, _, rfl, by unfold withL; rw [HL.out]; exact o3⟩, HT.out.grown g3 HT.out.size (fun k hk => by injection hk with hk; omega)⟩


set_option maxRecDepth 100000 in
set_option maxHeartbeats 2000000 in
theorem withAppeal_any (A : Option Addr) (n c : Nat) (l : List PT) (m : Int) (q : Nat) (w : World) (ha : Rd ptV 7 w A n c l) (h0 : 0 < n) (hn : n ≤ 6) (hq : w.cell? ⟨q, 0, none⟩ = some (.int .i64 m)) :
    Calls Try.prog 46 #[.slice A n c, .func (.func 51) #[] #[.pointer (some ⟨q, 0, none⟩)]] w fun e w' => (∃ B d, e = .returned (.slice B n d) ∧ Own ptV 7 w' w.heap.size 53 B n d (withL l { lastP l with st := 3, ap := m })) ∧ Below w.heap.size w w' := by
  obtain ⟨i0, hi, hz0, hz1, hz2⟩ := info_parts Try.infopt
  have HL := Lib.hid ha.len
  have hmm := ha.le
  have hqs := lt_of_cell hq
  go_enter Try.func46, Try.ntmps46
  go_wp2_with ((
     at_builtin
     refine wpList_pushAll rfl _ _ _ rfl w.heap.size 53 i0 _ 7 56 Try.underlying24 hi hz0 hz1 hz2 rfl (by omega) ptV ptV_len one_pt _ 0 0 [] rfl (Own.empty ptV 7 _ 53) _ n c l rfl (ha.alloc _) (by simp only [maxLen]; omega) (by omega) (by first | simp; done | (simp; omega)) ?_
     intro B1 d1 w2 o1 g1
     simp only [Nat.zero_add, List.nil_append] at o1
     have b2 : Below w.heap.size w w2 := (below_alloc _).grown g1 (by simp) (fun k hk => by simp [blockOf] at hk; omega)
     replace hq := cell_below b2 hq
     obtain ⟨g, rfl⟩ := o1.form (by omega)
     have hx := last_get HL.out h0
     have hgl := (o1.lt rfl).1
     have HX := Lib.hid hx
     have HO := Lib.hid o1
     have HT := Lib.hid b2
     clear hx o1 b2 ha))
  have hqg : ¬(q = g) := by omega
  refine (closeAppeal_any g n d1 (n - 1) q w.heap.size l (lastP l) _ w2 HO.out HX.out hq hqg).mono ?_
  rintro e w3 ⟨⟨v, rfl⟩, o3, g3⟩
  go_wp2
  go_ret
  exact ⟨⟨_, _, rfl, by unfold withL; rw [HL.out]; exact o3⟩, HT.out.grown g3 HT.out.size (fun k hk => by injection hk with hk; omega)⟩

set_option maxRecDepth 100000 in
set_option maxHeartbeats 2000000 in
theorem implRulePoint_any (A : Option Addr) (n c : Nat) (l : List PT) (t : Bool) (w : World) (ha : Rd ptV 7 w A n c l) :
    Calls Try.prog 10 #[.slice A n c, .bool t] w fun e w' => (∃ B q d, e = .returned (.tuple #[.slice B q d, .bool (lastB l 1)]) ∧ Own ptV 7 w' w.heap.size 53 B q d (rulL l t)) ∧ Below w.heap.size w w' := by
  obtain ⟨i0, hi, hz0, hz1, hz2⟩ := info_parts Try.infopt
  have HL := Lib.hid ha.len
  have hmm := ha.le
  have b0 := below_alloc (w := w) (.cells #[.bool t] 4)
  have q0 : (w.alloc (.cells #[.bool t] 4)).cell? ⟨w.heap.size, 0, none⟩ = some (.bool t) := cell_of_row _ _ 0 _ _ _ (heap_new rfl)
  go_enter Try.func10, Try.ntmps10
  go_wp2_with fail
  refine (lastIn_any _ _ _ _ 1 _ (ha.below b0)).mono ?_
  rintro e w1 ⟨rfl, b1⟩
  replace q0 := cell_below b1 q0
  have t1 := below_trans b0 b1
  cases h1 : lastB l 1
  · go_wp2
    go_ret2
    exact ⟨⟨_, _, _, ret_sl_bool h1.symm, by rw [rulL_no h1]; exact Own.nil _ _ _⟩, t1⟩
  have HB := Lib.hid h1
  obtain ⟨hpt, hn0, hst⟩ := lastB_yes h1
  have hn6 : n ≤ 6 := by rw [← ha.len]; exact pts_len hpt
  have hn1 : 0 < n := by rw [← ha.len]; exact hn0
  clear hpt hn0 hst h1
  have har := ha.below t1
  go_wp2_with fail
  refine (withRule_any _ _ _ _ t _ _ har hn1 hn6 q0).mono ?_
  rintro e w2 ⟨⟨B, d, rfl, o2⟩, b2⟩
  have t2 := below_trans t1 b2
  go_wp2
  go_ret2
  exact ⟨⟨_, _, _, ret_sl_bool HB.out.symm, by rw [rulL_yes HB.out]; exact o2.base_le t1.size⟩, t2⟩

set_option maxRecDepth 100000 in
set_option maxHeartbeats 2000000 in
theorem implAppeal_any (A : Option Addr) (n c : Nat) (l : List PT) (m : Int) (w : World) (ha : Rd ptV 7 w A n c l) :
    Calls Try.prog 15 #[.slice A n c, .int .i64 m] w fun e w' => (∃ B q d, e = .returned (.tuple #[.slice B q d, .bool (appG l m)]) ∧ Own ptV 7 w' w.heap.size 53 B q d (appL l m)) ∧ Below w.heap.size w w' := by
  obtain ⟨i0, hi, hz0, hz1, hz2⟩ := info_parts Try.infopt
  have HL := Lib.hid ha.len
  have hmm := ha.le
  have b0 := below_alloc (w := w) (.cells #[.int .i64 m] 3)
  have q0 : (w.alloc (.cells #[.int .i64 m] 3)).cell? ⟨w.heap.size, 0, none⟩ = some (.int .i64 m) := cell_of_row _ _ 0 _ _ _ (heap_new rfl)
  go_enter Try.func15, Try.ntmps15
  go_wp2_with fail
  refine (lastIn_any _ _ _ _ 2 _ (ha.below b0)).mono ?_
  rintro e w1 ⟨rfl, b1⟩
  replace q0 := cell_below b1 q0
  have t1 := below_trans b0 b1
  cases h1 : lastB l 2
  · have E := Lib.hid (show appG l m = false by unfold appG; rw [h1]; rfl)
    go_wp2
    go_ret2
    exact ⟨⟨_, _, _, ret_sl_bool E.out.symm, by rw [appL_no E.out]; exact Own.nil _ _ _⟩, t1⟩
  have HB := Lib.hid h1
  obtain ⟨hpt, hn0, hst⟩ := lastB_yes h1
  have hn6 : n ≤ 6 := by rw [← ha.len]; exact pts_len hpt
  have hn1 : 0 < n := by rw [← ha.len]; exact hn0
  clear hpt hn0 hst h1
  go_wp2_with fail
  refine (isMember_any m _).mono ?_
  rintro e w2 ⟨rfl, rfl⟩
  cases hm : mB m
  · have E := Lib.hid (show appG l m = false by unfold appG; rw [hm]; simp)
    go_wp2
    go_ret2
    exact ⟨⟨_, _, _, ret_sl_bool E.out.symm, by rw [appL_no E.out]; exact Own.nil _ _ _⟩, t1⟩
  have HM := Lib.hid hm
  obtain ⟨hm1, hm2⟩ : 1 ≤ m ∧ m ≤ 99 := of_decide_eq_true hm
  have har := ha.below t1
  go_wp2_with fail
  refine (withAppeal_any _ _ _ _ m _ _ har hn1 hn6 q0).mono ?_
  rintro e w2 ⟨⟨B, d, rfl, o2⟩, b2⟩
  have t2 := below_trans t1 b2
  have HA := Lib.hid (app_ok HB.out ⟨hm1, hm2⟩)
  go_wp2_with fail
  refine (ArePoints_any _ _ _ _ _ (o2.rd ptV_len)).mono ?_
  rintro e w3 ⟨rfl, b3⟩
  have t3 := below_trans t2 b3
  have HG := Lib.hid (show appG l m = ptsB (withL l (appP l m)) by unfold appG; rw [HB.out, HM.out, HA.out]; rfl)
  change Own ptV 7 w2 w1.heap.size 53 B n d (withL l (appP l m)) at o2
  cases h4 : ptsB (withL l (appP l m))
  · have E := Lib.hid (show appG l m = false by rw [HG.out, h4])
    have h5 : ptsB (withL l { ra := (lastP l).ra, st := 3, ta := (lastP l).ta, ap := m, yes := (lastP l).yes, no := (lastP l).no, ab := (lastP l).ab }) = false := h4
    clear h4
    go_wp2
    go_ret2
    exact ⟨⟨_, _, _, ret_sl_bool E.out.symm, by rw [appL_no E.out]; exact Own.nil _ _ _⟩, t3⟩
  · have E := Lib.hid (show appG l m = true by rw [HG.out, h4])
    have h5 : ptsB (withL l { ra := (lastP l).ra, st := 3, ta := (lastP l).ta, ap := m, yes := (lastP l).yes, no := (lastP l).no, ab := (lastP l).ab }) = true := h4
    clear h4
    go_wp2
    go_ret2
    exact ⟨⟨_, _, _, ret_sl_bool E.out.symm, by rw [appL_yes E.out]; exact (o2.below b3).base_le t1.size⟩, t3⟩


theorem Rd.take {α : Type} {enc : α → List Value} {sz : Nat} {w : World} {A : Option Addr} {n c : Nat} {l : List α} (h : Rd enc sz w A n c l) {k : Nat} (hk : k ≤ n) : Rd enc sz w A k c (l.take k) := by
  refine ⟨by rw [List.length_take, h.len]; omega, by have := h.cap; omega, h.max, h.nil0, fun h0 => ?_⟩
  obtain ⟨b, off, e, hc⟩ := h.at_ (by omega)
  refine ⟨b, off, e, fun i x hx j u hu => hc i x ?_ j u hu⟩
  have hi : i < (l.take k).length := (List.getElem?_eq_some_iff.1 hx).1
  rw [List.getElem?_take] at hx
  split at hx
  · exact hx
  · cases hx
set_option maxRecDepth 100000 in
set_option maxHeartbeats 4000000 in
theorem l17Last_any (A : Option Addr) (n c : Nat) (l : List PT) (p : PT) (w : World) (ha0 : Rd ptV 7 w A (n + 1) c l) (hn : n ≤ 1048576) :
    Calls Try.prog 43 #[.slice A (n + 1) c, .agg #[.int .i64 p.ra, .int .i64 p.st, .bool p.ta, .int .i64 p.ap, .int .i64 p.yes, .int .i64 p.no, .int .i64 p.ab]] w fun e w' => (∃ B d, e = .returned (.slice B (n + 1) d) ∧ Own ptV 7 w' w.heap.size 53 B (n + 1) d (withL l p)) ∧ Below w.heap.size w w' := by
  obtain ⟨i0, hi, hz0, hz1, hz2⟩ := info_parts Try.infopt
  have HW := Lib.hid (withL_app ha0.len (by omega) p)
  have hcap := ha0.cap
  have ha := ha0.take (k := n) (by omega)
  clear ha0
  have hw : IntKind.i64.wrap (n : Int) = (n : Int) := IntWalk.i64_in _ (by omega)
  have hnc : (n : Int) ≤ (c : Int) := by omega
  go_enter Try.func43, Try.ntmps43
  go_upto_region 1 with fail
  go_cut [4] (fun s4 wx => ∃ B d, s4 = .slice B (n + 1) d ∧ Own ptV 7 wx w.heap.size 53 B (n + 1) d (l.take n ++ [p]) ∧ Below w.heap.size w wx)
  case first =>
    go_region_law (first
      | (refine step_pushAll rfl (.tmp 5) (.tmp 10) _ rfl w.heap.size 53 i0 _ 7 56 Try.underlying24 hi hz0 hz1 hz2 rfl (by omega) ptV ptV_len one_pt _ 0 0 [] _ n c (l.take n) rfl rfl n (by omega) (by simp only [maxLen]; omega) (by omega) (by first | omega | (simp; done) | (simp; omega)) ?_ ?_ ?_
         · exact Own.of_block (by first | exact heap_new (by simp) | exact heap_old (heap_new (by simp)) | exact heap_old (heap_old (heap_new (by simp)))) (by first | omega | (simp; done) | (simp; omega))
         · first | exact ((ha.alloc _).alloc _).drew | exact (((ha.alloc _).alloc _).alloc _).drew
         intro B1 d1 w1 o1 g1
         have hbx : w1.heap[w.heap.size]? = some (.cells #[.int .i64 p.ra, .int .i64 p.st, .bool p.ta, .int .i64 p.ap, .int .i64 p.yes, .int .i64 p.no, .int .i64 p.ab] 53 (0, 0)) := heap_grown g1 (by first | exact heap_old (heap_new rfl) | exact heap_old (heap_old (heap_new rfl))) (by simp [blockOf] <;> omega)
         have q0 := fun i => cell_of_row w1 w.heap.size i _ _ _ hbx
         have s1 : w.heap.size ≤ w1.heap.size := by have := g1.size; simp at this; omega
         have b1 : Below w.heap.size w w1 := (by first | exact (below_alloc2 _ _).drew | exact (below_alloc3 _ _ _).drew : Below w.heap.size w _).grown g1 (by first | omega | (simp; done) | (simp; omega)) (fun k hk => by simp [blockOf] at hk; omega))
      | (refine step_pushAll rfl (.tmp 11) (.tmp 13) _ rfl w.heap.size 53 i0 _ 7 56 Try.underlying24 hi hz0 hz1 hz2 rfl (by omega) ptV ptV_len one_pt _ n _ (l.take n) _ 1 1 [p] rfl rfl (n + 1) rfl (by simp only [maxLen]; omega) (by omega) (by first | exact s1 | (simp; omega)) ?_ ?_ ?_
         · first | exact o1 | exact o1.alloc _
         · first | exact Rd.of_block (heap_new (by simp)) rfl | exact Rd.of_block (heap_grown g1 (by first | exact heap_new (by simp) | exact heap_old (heap_new (by simp)) | exact heap_old (heap_old (heap_new (by simp)))) (by simp [blockOf] <;> omega)) rfl
         intro B2 d2 w2 o2 g2
         have b2 : Below w.heap.size w w2 := by first | exact below_push b1 o1 g2 (Nat.le_refl _) | exact below_push (below_trans b1 (below_alloc _)) (o1.alloc _) g2 (Nat.le_refl _)))
    all_goals (go_wp2_with fail; go_meet; exact ⟨B2, d2, rfl, o2, b2⟩)
  case rest =>
  obtain ⟨B, d, rfl, hoc, hbc⟩ := hcut
  go_wp2
  go_ret
  exact ⟨⟨_, _, rfl, by rw [HW.out, Nat.add_sub_cancel]; exact hoc⟩, hbc⟩

theorem l17Last_n (A : Option Addr) (n c : Nat) (l : List PT) (p : PT) (w : World) (h0 : 0 < n) (ha0 : Rd ptV 7 w A n c l) (hn : n ≤ 1048576) :
    Calls Try.prog 43 #[.slice A n c, .agg #[.int .i64 p.ra, .int .i64 p.st, .bool p.ta, .int .i64 p.ap, .int .i64 p.yes, .int .i64 p.no, .int .i64 p.ab]] w fun e w' => (∃ B d, e = .returned (.slice B n d) ∧ Own ptV 7 w' w.heap.size 53 B n d (withL l p)) ∧ Below w.heap.size w w' := by
  obtain ⟨m, rfl⟩ : ∃ m, n = m + 1 := ⟨n - 1, by omega⟩
  exact l17Last_any A m c l p w ha0 (by omega)

set_option maxRecDepth 100000 in
set_option maxHeartbeats 2000000 in
theorem specRulePoint_any (A : Option Addr) (n c : Nat) (l : List PT) (t : Bool) (w : World) (ha : Rd ptV 7 w A n c l) :
    Calls Try.prog 8 #[.slice A n c, .bool t] w fun e w' => (∃ B q d, e = .returned (.tuple #[.slice B q d, .bool (lastB l 1)]) ∧ Own ptV 7 w' w.heap.size 53 B q d (rulL l t)) ∧ Below w.heap.size w w' := by
  have HL := Lib.hid ha.len
  have hmm := ha.le
  go_enter Try.func8, Try.ntmps8
  go_wp2_with fail
  refine (l17State_any _ _ _ _ 1 _ ha).mono ?_
  rintro e w1 ⟨rfl, b1⟩
  cases h1 : lastB l 1
  · go_wp2
    go_ret2
    exact ⟨⟨_, _, _, ret_sl_bool h1.symm, by rw [rulL_no h1]; exact (Own.empty ptV 7 _ 53).base_le b1.size⟩, below_trans b1 (below_alloc _)⟩
  have HB := Lib.hid h1
  obtain ⟨hpt, hn0, hst⟩ := lastB_yes h1
  have hn6 : n ≤ 6 := by rw [← ha.len]; exact pts_len hpt
  have hn1 : 0 < n := by rw [← ha.len]; exact hn0
  clear hpt hn0 hst h1
  obtain ⟨b, o, p, rfl, hp, c0, c1, c2, c3, c4, c5, c6⟩ := (ha.below b1).pt (i := n - 1) (by omega)
  have HP : Hid (lastP l = p) := by show _ = _; have := last_get HL.out hn1; rw [hp] at this; injection this with this; exact this.symm
  obtain ⟨n0, hn0⟩ : ∃ n0, n = n0 + 1 := ⟨n - 1, by omega⟩
  have HN0 := Lib.hid hn0
  have har := ha.below b1
  clear hp ha hn0
  go_wp2_with fail
  refine (l17Last_n _ n c l (⟨p.ra, 2, t, p.ap, p.yes, p.no, p.ab⟩ : PT) _ hn1 (har.alloc _) (by omega)).mono ?_
  rintro e w3 ⟨⟨B, d, rfl, o3⟩, b3⟩
  have t3 := below_trans b1 (below_trans (below_alloc _) b3)
  go_wp2
  go_ret2
  exact ⟨⟨_, _, _, ret_sl_bool HB.out.symm, by rw [rulL_yes HB.out]; unfold rulP; rw [HP.out]; exact o3.base_le (Nat.le_trans b1.size (below_alloc _).size)⟩, t3⟩

set_option maxRecDepth 100000 in
set_option maxHeartbeats 2000000 in
theorem specAppeal_any (A : Option Addr) (n c : Nat) (l : List PT) (m : Int) (w : World) (ha : Rd ptV 7 w A n c l) :
    Calls Try.prog 14 #[.slice A n c, .int .i64 m] w fun e w' => (∃ B q d, e = .returned (.tuple #[.slice B q d, .bool (appG l m)]) ∧ Own ptV 7 w' w.heap.size 53 B q d (appL l m)) ∧ Below w.heap.size w w' := by
  have HL := Lib.hid ha.len
  have hmm := ha.le
  go_enter Try.func14, Try.ntmps14
  go_wp2_with fail
  refine (l17State_any _ _ _ _ 2 _ ha).mono ?_
  rintro e w1 ⟨rfl, b1⟩
  cases h1 : lastB l 2
  · have E := Lib.hid (show appG l m = false by unfold appG; rw [h1]; rfl)
    go_wp2
    go_ret2
    exact ⟨⟨_, _, _, ret_sl_bool E.out.symm, by rw [appL_no E.out]; exact (Own.empty ptV 7 _ 53).base_le b1.size⟩, below_trans b1 (below_alloc _)⟩
  have HB := Lib.hid h1
  obtain ⟨hpt, hn0, hst⟩ := lastB_yes h1
  have hn6 : n ≤ 6 := by rw [← ha.len]; exact pts_len hpt
  have hn1 : 0 < n := by rw [← ha.len]; exact hn0
  clear hpt hn0 hst h1
  go_wp2_with fail
  refine (l7Member_any m _).mono ?_
  rintro e w2 ⟨rfl, rfl⟩
  cases hm : mB m
  · have E := Lib.hid (show appG l m = false by unfold appG; rw [hm]; simp)
    go_wp2
    go_ret2
    exact ⟨⟨_, _, _, ret_sl_bool E.out.symm, by rw [appL_no E.out]; exact (Own.empty ptV 7 _ 53).base_le b1.size⟩, below_trans b1 (below_alloc _)⟩
  have HM := Lib.hid hm
  obtain ⟨b, o, p, rfl, hp, c0, c1, c2, c3, c4, c5, c6⟩ := (ha.below b1).pt (i := n - 1) (by omega)
  have HP : Hid (lastP l = p) := by show _ = _; have := last_get HL.out hn1; rw [hp] at this; injection this with this; exact this.symm
  obtain ⟨n0, hn0⟩ : ∃ n0, n = n0 + 1 := ⟨n - 1, by omega⟩
  have HN0 := Lib.hid hn0
  have har := ha.below b1
  clear hp ha hn0
  cases hta : p.ta
  · have E := Lib.hid (show appG l m = true by unfold appG; rw [HB.out, HM.out, HP.out, hta]; rfl)
    have HTA := Lib.hid hta
    go_wp2_with fail
    refine (l17Last_n _ n c l (⟨p.ra, 3, false, m, p.yes, p.no, p.ab⟩ : PT) _ hn1 (har.alloc _) (by omega)).mono ?_
    rintro e w3 ⟨⟨B, d, rfl, o3⟩, b3⟩
    have t3 := below_trans b1 (below_trans (below_alloc _) b3)
    go_wp2
    go_ret2
    exact ⟨⟨_, _, _, ret_sl_bool E.out.symm, by rw [appL_yes E.out]; rw [appP_eq HP.out, HTA.out]; exact o3.base_le (Nat.le_trans b1.size (below_alloc _).size)⟩, t3⟩
  by_cases hr : p.ra = m
  · have E := Lib.hid (show appG l m = false by unfold appG; rw [HP.out, hta, hr]; simp)
    have oe := Own.empty ptV 7 (w1.alloc (.cells #[.int .i64 p.ra, .int .i64 p.st, .bool true, .int .i64 p.ap, .int .i64 p.yes, .int .i64 p.no, .int .i64 p.ab] 53)) 53
    have hsz : (w1.alloc (.cells #[.int .i64 p.ra, .int .i64 p.st, .bool true, .int .i64 p.ap, .int .i64 p.yes, .int .i64 p.no, .int .i64 p.ab] 53)).heap.size = w1.heap.size + 1 := by simp
    rw [hsz] at oe
    have HE := Lib.hid (oe.base_le (show w.heap.size ≤ w1.heap.size + 1 from Nat.le_succ_of_le b1.size))
    rw [hr] at HE
    clear oe hsz
    go_wp2
    go_ret2
    exact ⟨⟨_, _, _, ret_sl_bool E.out.symm, by rw [appL_no E.out]; exact HE.out⟩, below_trans b1 (below_alloc2 _ _)⟩
  · have E := Lib.hid (show appG l m = true by unfold appG; rw [HB.out, HM.out, HP.out, hta]; simp [hr])
    have HTA := Lib.hid hta
    go_wp2_with fail
    refine (l17Last_n _ n c l (⟨p.ra, 3, true, m, p.yes, p.no, p.ab⟩ : PT) _ hn1 (har.alloc _) (by omega)).mono ?_
    rintro e w3 ⟨⟨B, d, rfl, o3⟩, b3⟩
    have t3 := below_trans b1 (below_trans (below_alloc _) b3)
    go_wp2
    go_ret2
    exact ⟨⟨_, _, _, ret_sl_bool E.out.symm, by rw [appL_yes E.out]; rw [appP_eq HP.out, HTA.out]; exact o3.base_le (Nat.le_trans b1.size (below_alloc _).size)⟩, t3⟩
end Go.Proofs.Ytjeldedmaanhbaa
