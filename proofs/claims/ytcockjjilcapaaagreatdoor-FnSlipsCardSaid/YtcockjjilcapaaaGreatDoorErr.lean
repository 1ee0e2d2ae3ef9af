/-
  YtcockjjilcapaaaGreatDoorErr: what a door's row lists: the error that strconv.Atoi hands on, off the row's own condition.
-/
import Derived.Test.YtcockjjilcapaaaGreatDoorTab
namespace Go.Proofs.YtcockjjilcapaaaGreatDoor
open Go Go.RowKit Go.Sort
set_option linter.unusedVariables false

theorem iface_of_trod {H : Type} {enc : TypeId × Value → H} {P : Program} {w : World} {base : Nat} {sp : Nat → Bool} {held : Bool} {fuel : Nat} {t : TypeId} {cs : List Value} {x : DataW H × List MemPlace}
    (ht : ∃ ms, P.underlying t = some (.interface ms)) (h : DataW.trod enc P w base sp held fuel t cs = some x) : ∃ v, cs = [v] ∧ (v = .nilIface ∨ ∃ te pe, v = .iface te pe) := by
  obtain ⟨ms, ht⟩ := ht
  cases fuel with
  | zero => simp [DataW.trod] at h
  | succ n =>
    match cs, h with
    | [], h => simp [DataW.trod, ht] at h
    | [v], h =>
      refine ⟨v, rfl, ?_⟩
      cases v <;> first | exact .inl rfl | exact .inr ⟨_, _, rfl⟩ | simp [DataW.trod, ht] at h
    | _ :: _ :: _, h => simp [DataW.trod, ht] at h

theorem iface_of_vars {P : Program} {W : World} {name : String} {d : DataW Unit} {g : Nat} {t : TypeId}
    (hg : P.globalNamed name = some g) (hty : (P.globals[g]?).map (·.type) = some t) (ht : ∃ ms, P.underlying t = some (.interface ms)) :
    ∀ {laid : List (String × DataW Unit)} {ps : List MemPlace}, DataW.LaidVars P W laid ps → (name, d) ∈ laid → ∃ ev, W.cell? ⟨g, 0, none⟩ = some ev ∧ (ev = .nilIface ∨ ∃ te pe, ev = .iface te pe) := by
  intro laid
  induction laid with
  | nil => intro ps _ h; cases h
  | cons x r ih =>
    intro ps h hm
    obtain ⟨g', t', cs, fuel, p, q, hg', ht', hvar, hd, hr, _⟩ := h
    rcases List.mem_cons.1 hm with rfl | hm
    · obtain rfl := Option.some.inj (hg.symm.trans hg')
      obtain rfl := Option.some.inj (hty.symm.trans ht')
      obtain ⟨v, hv, hi⟩ := iface_of_trod ht hd
      refine ⟨v, ?_, hi⟩
      have h0 := World.var?_cell hg hvar 0
      rw [h0]
      obtain ⟨l⟩ := cs
      simp at hv
      subst hv
      rfl
    · exact ih hr hm

/-- The error's variable, off a row's condition. -/
theorem errSyntax_of {W : World} {laid : List (String × DataW Unit)} {d : DataW Unit} (hp : (laid.all fun x => x.2.handleName?.isNone) = true) (h : laidMetH Tryz.prog laid W) (hm : ("strconv.ErrSyntax", d) ∈ laid) :
    ∃ ev, W.cell? ⟨1, 0, none⟩ = some ev ∧ (ev = .nilIface ∨ ∃ te pe, ev = .iface te pe) := by
  rw [MakeChecks.laidMetH_plain _ _ _ hp] at h
  obtain ⟨ps, hv, _, _⟩ := h
  exact iface_of_vars (g := 1) (t := 52) (by kernel_rfl) (by kernel_rfl) ⟨_, Tryz.underlying52⟩ hv hm
theorem errRange_of {W : World} {laid : List (String × DataW Unit)} {d : DataW Unit} (hp : (laid.all fun x => x.2.handleName?.isNone) = true) (h : laidMetH Tryz.prog laid W) (hm : ("strconv.ErrRange", d) ∈ laid) :
    ∃ ev, W.cell? ⟨2, 0, none⟩ = some ev ∧ (ev = .nilIface ∨ ∃ te pe, ev = .iface te pe) := by
  rw [MakeChecks.laidMetH_plain _ _ _ hp] at h
  obtain ⟨ps, hv, _, _⟩ := h
  exact iface_of_vars (g := 2) (t := 52) (by kernel_rfl) (by kernel_rfl) ⟨_, Tryz.underlying52⟩ hv hm
end Go.Proofs.YtcockjjilcapaaaGreatDoor
