/-
  YtmahfkimeclcbaaGreatDoorCorD: corrections: a sheet corrected once: spec.l22With, impl.corrected, both CorrectSheet.
-/
import Derived.Test.YtmahfkimeclcbaaGreatDoorCorC
import Derived.Lib.QuietBelow
namespace Go.Proofs.YtmahfkimeclcbaaGreatDoor
open Go Go.RowKit Go.Sort
set_option linter.unusedVariables false

theorem Tryz.infoSt' : (Tryz.prog.info? 9).map (fun i => (i.zero, i.size, i.bytes)) = some (some (.string ByteArray.empty), 1, 16) := by kernel_rfl
/-- The line of a sheet. -/
def lineAt (l : List ByteArray) (x : CO) : ByteArray := l.getD x.line.toNat ⟨#[]⟩
/-- The correction fits to the sheet (the sheet's own lines are not looked at). -/
def corrG (l : List ByteArray) (x : CO) : Bool := coOK x && inB x.line 0 ((l.length : Int) - 1) && impG (lineAt l x) x
def corrL (l : List ByteArray) (x : CO) : List ByteArray := if corrG l x then l.set x.line.toNat (fixB (lineAt l x) x) else []
theorem corrL_no {l : List ByteArray} {x : CO} (h : corrG l x = false) : corrL l x = [] := by simp [corrL, h]
theorem corrL_yes {l : List ByteArray} {x : CO} (h : corrG l x = true) : corrL l x = l.set x.line.toNat (fixB (lineAt l x) x) := by simp [corrL, h]
/-- CorrectSheet's results. -/
def shG (l : List ByteArray) (x : CO) : Bool := sheetB l && corrG l x
def shL (l : List ByteArray) (x : CO) : List ByteArray := if shG l x then corrL l x else []
theorem shL_no {l : List ByteArray} {x : CO} (h : shG l x = false) : shL l x = [] := by simp [shL, h]
theorem shL_yes {l : List ByteArray} {x : CO} (h : shG l x = true) : shL l x = corrL l x := by simp [shL, h]
theorem shL_len (l : List ByteArray) (x : CO) : (shL l x).length ≤ l.length := by
  cases h : shG l x
  · rw [shL_no h]; simp
  · rw [shL_yes h]
    cases h2 : corrG l x
    · rw [corrL_no h2]; simp
    · rw [corrL_yes h2]; simp
theorem ret_sl_bool {A : Option Addr} {n c : Nat} {b d : Bool} (h : b = d) : Ending.returned (.tuple #[.slice A n c, .bool b]) = .returned (.tuple #[.slice A n c, .bool d]) := by rw [h]

set_option maxRecDepth 100000 in
set_option maxHeartbeats 1000000 in
theorem l22With_any (A : Option Addr) (n c : Nat) (l : List ByteArray) (k : Nat) (s : ByteArray) (w : World) (ha : Rd stV 1 w A n c l) (hn : n ≤ 4194304) (hk : k < n) :
    Calls Tryz.prog 75 #[.slice A n c, .int .i64 k, .string s] w fun e w' => (∃ B d, e = .returned (.slice B n d) ∧ Own stV 1 w' w.heap.size 9 B n d (l.set k s)) ∧ Below w.heap.size w w' := by
  obtain ⟨i0, hi, hz0, hz1, hz2⟩ := info_parts Tryz.infoSt'
  have b0 := below_alloc (w := w) (.cells #[] 9)
  go_enter Tryz.func75, Tryz.ntmps75
  go_wp2_with ((
     at_builtin
     refine wpList_pushAll rfl _ _ _ rfl w.heap.size 9 i0 (.string ByteArray.empty) 1 16 Tryz.underlying35 hi hz0 hz1 hz2 rfl (by omega) stV stV_len one_st _ 0 0 [] rfl (Own.empty stV 1 _ 9) _ n c l rfl (ha.alloc _) (by simp only [maxLen]; omega) (by omega) (by first | simp; done | (simp; omega)) ?_
     intro B1 d1 w1 o1 g1
     simp only [Nat.zero_add, List.nil_append] at o1
     have t1 : Below w.heap.size w w1 := b0.grown g1 (by simp) (fun k hk => by simp [blockOf] at hk; omega)
     obtain ⟨g, rfl⟩ := o1.form (by omega)
     have hkl : k < l.length := by rw [o1.len]; exact hk
     have hx : l[k]? = some l[k] := List.getElem?_eq_getElem hkl
     have f0 := o1.frozen (k * 1 + 0)
     have q0 := o1.cell stV_len (j := 0) hx rfl
     obtain ⟨s1, e1⟩ := o1.store stV_len (i := k) (j := 0) hx (by omega) s (.string s) rfl
     have hgl := o1.lt rfl
     simp only [Nat.add_zero, Nat.mul_one] at f0 q0 s1 e1
     have S1 := Lib.hid s1
     have T1 := Lib.hid (below_setCell t1 g k (.string s) hgl.1)
     clear hx s1 e1 ha o1))
  go_ret
  exact ⟨⟨_, _, rfl, S1.out⟩, T1.out⟩

set_option maxRecDepth 100000 in
set_option maxHeartbeats 2000000 in
theorem corrected_any (A : Option Addr) (n c : Nat) (l : List ByteArray) (x : CO) (mx : Int) (w : World) (ha : Rd stV 1 w A n c l) (hn : n ≤ 1048576) (hg : ∀ s ∈ l, s.size ≤ 1048576) (h0 : x.old.size ≤ 1048576) (h1 : x.new.size ≤ 1048576) (hM : w.cell? ⟨0, 0, none⟩ = some (.int .i64 mx)) :
    Calls Tryz.prog 40 #[.slice A n c, .agg #[.int .i64 x.line, .string x.old, .string x.new]] w fun e w' => (∃ B q d, e = .returned (.tuple #[.slice B q d, .bool (corrG l x)]) ∧ Own stV 1 w' w.heap.size 9 B q d (corrL l x)) ∧ Below w.heap.size w w' := by
  obtain ⟨i0, hi, hz0, hz1, hz2⟩ := info_parts Tryz.infoSt'
  have HL := Lib.hid ha.len
  have hm0 : x.old.size ≤ maxLen := by unfold maxLen; omega
  have hm1 : x.new.size ≤ maxLen := by unfold maxLen; omega
  have b0 := below_alloc (w := w) (.cells #[.int .i64 x.line, .string x.old, .string x.new] 25)
  have q0 := fun i => cell_of_row (w.alloc (.cells #[.int .i64 x.line, .string x.old, .string x.new] 25)) w.heap.size i _ _ _ (heap_new rfl)
  have c0 : (w.alloc (.cells #[.int .i64 x.line, .string x.old, .string x.new] 25)).cell? ⟨w.heap.size, 0, none⟩ = some (.int .i64 x.line) := q0 0
  have c1 : (w.alloc (.cells #[.int .i64 x.line, .string x.old, .string x.new] 25)).cell? ⟨w.heap.size, 1, none⟩ = some (.string x.old) := q0 1
  have c2 : (w.alloc (.cells #[.int .i64 x.line, .string x.old, .string x.new] 25)).cell? ⟨w.heap.size, 2, none⟩ = some (.string x.new) := q0 2
  clear q0
  have HM := Lib.hid (cell_below b0 hM)
  clear hM
  go_enter Tryz.func40, Tryz.ntmps40
  go_wp2_with fail
  refine (isCorrection_any _ _ hm0 hm1).mono ?_
  rintro e w1 ⟨rfl, b1⟩
  replace c0 := cell_below b1 c0
  replace c1 := cell_below b1 c1
  replace c2 := cell_below b1 c2
  replace HM := Lib.hid (cell_below b1 HM.out)
  have t1 := below_trans b0 b1
  cases h2 : coOK x
  · have E := Lib.hid (show corrG l x = false by unfold corrG; rw [h2]; rfl)
    go_wp2
    go_ret2
    exact ⟨⟨_, _, _, ret_sl_bool E.out.symm, by rw [corrL_no E.out]; exact Own.nil _ _ _⟩, t1⟩
  have H2 := Lib.hid h2
  go_wp2_with fail
  refine (inside_any _ _ _ _).mono ?_
  rintro e w2 ⟨rfl, rfl⟩
  cases h3 : inB x.line 0 ((n : Int) - 1)
  · have E := Lib.hid (show corrG l x = false by unfold corrG; rw [HL.out, h3, h2]; rfl)
    go_wp2
    go_ret2
    exact ⟨⟨_, _, _, ret_sl_bool E.out.symm, by rw [corrL_no E.out]; exact Own.nil _ _ _⟩, t1⟩
  have h4 := inB_iff.1 h3
  have H3 := Lib.hid h3
  obtain ⟨k, hk⟩ := Int.eq_ofNat_of_zero_le h4.1
  have HK := Lib.hid hk
  have hkn : k < n := by omega
  obtain ⟨b, o, s, rfl, hs, cs⟩ := (ha.below t1).st hkn
  have HS := Lib.hid hs
  have hsz := hg s (List.mem_of_getElem? hs)
  have HA : Hid (lineAt l x = s) := by show _ = _; unfold lineAt; rw [HK.out, Int.toNat_natCast, List.getD, HS.out]; rfl
  have hp := coOK_old h2
  have hcl : ∀ w', w'.cell? ⟨0, 0, none⟩ = some (.int .i64 mx) → Calls Tryz.prog 35 #[.string s, .agg #[.int .i64 k, .string x.old, .string x.new]] w' fun e w'' => e = .returned (.tuple #[.string (impS s x), .bool (impG s x)]) ∧ Below w'.heap.size w' w'' := fun w' hM' => by
    rw [← hk]
    exact correctLine_any s x mx w' (by omega) (by omega) (by omega) hp hM'
  rw [hk] at c0
  have k0 := cell_regrown c0
  have k1 := cell_regrown c1
  have k2 := cell_regrown c2
  have ks := cell_regrown cs
  have kM := Lib.hid (cell_regrown HM.out)
  clear h3 h4 hk hs h2 hg
  go_wp2_with fail
  refine wp_region_quiet_below (by kernel_rfl) (by kernel_rfl) ?_
  repeat (go_big_quiet_step ((go_at_call 35; exact Calls.regrown_of (hcl _ (kM.out _ _)))))
  refine wpQuiet_nil ?_
  intro _ hw'
  obtain ⟨⟨dq, osq⟩, hw''⟩ := hw'
  subst hw''
  replace c0 := k0 dq osq
  replace c1 := k1 dq osq
  replace c2 := k2 dq osq
  have t2 := below_grow t1 dq osq
  clear k0 k1 k2 ks kM cs
  generalize hgw : grow (redrawn w1 dq) osq = w2 at *
  clear hgw
  cases h6 : impG s x
  · have E := Lib.hid (show corrG l x = false by unfold corrG; rw [HL.out, H3.out, H2.out, HA.out, h6]; rfl)
    go_wp2
    go_ret2
    exact ⟨⟨_, _, _, ret_sl_bool E.out.symm, by rw [corrL_no E.out]; exact Own.nil _ _ _⟩, t2⟩
  · have E := Lib.hid (show corrG l x = true by unfold corrG; rw [HL.out, H3.out, H2.out, HA.out, h6]; rfl)
    have F := Lib.hid (show l.set k (impS s x) = corrL l x by rw [corrL_yes E.out, HK.out, Int.toNat_natCast, HA.out]; unfold impG at h6; rw [impS_yes (by rw [Bool.and_eq_true] at h6; exact h6.1)])
    have har := ha.below t2
    go_wp2_with ((
       at_builtin
       refine wpList_pushAll rfl _ _ _ rfl w2.heap.size 9 i0 (.string ByteArray.empty) 1 16 Tryz.underlying35 hi hz0 hz1 hz2 rfl (by omega) stV stV_len one_st _ 0 0 [] rfl (Own.empty stV 1 _ 9) _ n c l rfl (har.alloc _) (by simp only [maxLen]; omega) (by omega) (by first | simp; done | (simp; omega)) ?_
       intro B1 d1 w3 o1 g1
       simp only [Nat.zero_add, List.nil_append] at o1
       have b3 : Below w2.heap.size w2 w3 := (below_alloc _).grown g1 (by simp) (fun k hk => by simp [blockOf] at hk; omega)
       have t3 := below_trans t2 b3
       replace c0 := cell_below b3 c0
       obtain ⟨g, rfl⟩ := o1.form (by omega)
       have hkl : k < l.length := by rw [o1.len]; exact hkn
       have hx : l[k]? = some l[k] := List.getElem?_eq_getElem hkl
       have f0 := o1.frozen (k * 1 + 0)
       have q0 := o1.cell stV_len (j := 0) hx rfl
       obtain ⟨s1, e1⟩ := o1.store stV_len (i := k) (j := 0) hx (by omega) (impS s x) (.string (impS s x)) rfl
       have hgl := o1.lt rfl
       simp only [Nat.add_zero, Nat.mul_one] at f0 q0 s1 e1
       have S1 := Lib.hid (s1.base_le t2.size)
       have T1 := Lib.hid (below_setCell t3 g k (.string (impS s x)) (Nat.le_trans t2.size hgl.1))
       clear hx s1 e1 ha o1))
    go_ret2
    exact ⟨⟨_, _, _, ret_sl_bool E.out.symm, by rw [← F.out]; exact S1.out⟩, T1.out⟩

set_option maxRecDepth 100000 in
set_option maxHeartbeats 2000000 in
theorem implCorrectSheet_any (A : Option Addr) (n c : Nat) (l : List ByteArray) (x : CO) (mx : Int) (w : World) (ha : Rd stV 1 w A n c l) (hn : n ≤ 1048576) (hg : ∀ s ∈ l, s.size ≤ 1048576) (h0 : x.old.size ≤ 1048576) (h1 : x.new.size ≤ 1048576) (hM : w.cell? ⟨0, 0, none⟩ = some (.int .i64 mx)) :
    Calls Tryz.prog 14 #[.slice A n c, .agg #[.int .i64 x.line, .string x.old, .string x.new]] w fun e w' => (∃ B q d, e = .returned (.tuple #[.slice B q d, .bool (shG l x)]) ∧ Own stV 1 w' w.heap.size 9 B q d (shL l x)) ∧ Below w.heap.size w w' := by
  have hgm : ∀ s ∈ l, s.size ≤ maxLen := fun s hs => by have := hg s hs; unfold maxLen; omega
  have b0 := below_alloc (w := w) (.cells #[.int .i64 x.line, .string x.old, .string x.new] 25)
  have q0 := fun i => cell_of_row (w.alloc (.cells #[.int .i64 x.line, .string x.old, .string x.new] 25)) w.heap.size i _ _ _ (heap_new rfl)
  have c0 : (w.alloc (.cells #[.int .i64 x.line, .string x.old, .string x.new] 25)).cell? ⟨w.heap.size, 0, none⟩ = some (.int .i64 x.line) := q0 0
  have c1 : (w.alloc (.cells #[.int .i64 x.line, .string x.old, .string x.new] 25)).cell? ⟨w.heap.size, 1, none⟩ = some (.string x.old) := q0 1
  have c2 : (w.alloc (.cells #[.int .i64 x.line, .string x.old, .string x.new] 25)).cell? ⟨w.heap.size, 2, none⟩ = some (.string x.new) := q0 2
  clear q0
  have HM := Lib.hid (cell_below b0 hM)
  clear hM
  go_enter Tryz.func14, Tryz.ntmps14
  go_wp2_with fail
  refine (implIsSheet_any _ _ _ _ _ (ha.below b0) hgm).mono ?_
  rintro e w1 ⟨rfl, rfl⟩
  cases h2 : sheetB l
  · have E := Lib.hid (show shG l x = false by unfold shG; rw [h2]; rfl)
    go_wp2
    go_ret2
    exact ⟨⟨_, _, _, ret_sl_bool E.out.symm, by rw [shL_no E.out]; exact Own.nil _ _ _⟩, b0⟩
  · have E := Lib.hid (show corrG l x = shG l x by unfold shG; rw [h2]; rfl)
    have F := Lib.hid (show corrL l x = shL l x by cases h : shG l x; rw [shL_no h, corrL_no (by rw [E.out, h])]; rw [shL_yes h])
    go_wp2_with fail
    refine (corrected_any _ _ _ _ x mx _ (ha.below b0) hn hg h0 h1 HM.out).mono ?_
    rintro e w2 ⟨⟨B, q, d, rfl, o2⟩, b2⟩
    go_wp2
    go_ret2
    exact ⟨⟨_, _, _, ret_sl_bool E.out, by rw [← F.out]; exact o2.base_le b0.size⟩, below_trans b0 b2⟩

set_option maxRecDepth 100000 in
set_option maxHeartbeats 2000000 in
theorem specCorrectSheet_any (A : Option Addr) (n c : Nat) (l : List ByteArray) (x : CO) (w : World) (ha : Rd stV 1 w A n c l) (hn : n ≤ 1048576) (hg : ∀ s ∈ l, s.size ≤ 1048576) (h0 : x.old.size ≤ 1048576) (h1 : x.new.size ≤ 1048576) :
    Calls Tryz.prog 65 #[.slice A n c, .agg #[.int .i64 x.line, .string x.old, .string x.new]] w fun e w' => (∃ B q d, e = .returned (.tuple #[.slice B q d, .bool (shG l x)]) ∧ Own stV 1 w' w.heap.size 9 B q d (shL l x)) ∧ Below w.heap.size w w' := by
  have HL := Lib.hid ha.len
  have hgm : ∀ s ∈ l, s.size ≤ maxLen := fun s hs => by have := hg s hs; unfold maxLen; omega
  have b0 := below_alloc (w := w) (.cells #[.int .i64 x.line, .string x.old, .string x.new] 25)
  have q0 := fun i => cell_of_row (w.alloc (.cells #[.int .i64 x.line, .string x.old, .string x.new] 25)) w.heap.size i _ _ _ (heap_new rfl)
  have c0 : (w.alloc (.cells #[.int .i64 x.line, .string x.old, .string x.new] 25)).cell? ⟨w.heap.size, 0, none⟩ = some (.int .i64 x.line) := q0 0
  have c1 : (w.alloc (.cells #[.int .i64 x.line, .string x.old, .string x.new] 25)).cell? ⟨w.heap.size, 1, none⟩ = some (.string x.old) := q0 1
  have c2 : (w.alloc (.cells #[.int .i64 x.line, .string x.old, .string x.new] 25)).cell? ⟨w.heap.size, 2, none⟩ = some (.string x.new) := q0 2
  clear q0
  go_enter Tryz.func65, Tryz.ntmps65
  go_wp2_with fail
  generalize hgw0 : w.alloc (.cells #[.int .i64 x.line, .string x.old, .string x.new] 25) = w0 at *
  clear hgw0
  refine (l22Sheet_any _ _ _ _ _ (ha.below b0) hgm).mono ?_
  rintro e w1 ⟨rfl, rfl⟩
  cases h2 : sheetB l
  · have E := Lib.hid (show shG l x = false by unfold shG; rw [h2]; rfl)
    go_wp2
    go_ret2
    exact ⟨⟨_, _, _, ret_sl_bool E.out.symm, by rw [shL_no E.out]; exact (Own.empty stV 1 _ 9).base_le b0.size⟩, below_trans b0 (below_alloc _)⟩
  have H2 := Lib.hid h2
  go_wp2_with fail
  refine (l1In_any _ _ _ _).mono ?_
  rintro e w2 ⟨rfl, rfl⟩
  cases h3 : inB x.line 0 ((n : Int) - 1)
  · have E := Lib.hid (show shG l x = false by unfold shG corrG; rw [HL.out, h3, h2]; simp)
    go_wp2
    go_ret2
    exact ⟨⟨_, _, _, ret_sl_bool E.out.symm, by rw [shL_no E.out]; exact (Own.empty stV 1 _ 9).base_le b0.size⟩, below_trans b0 (below_alloc _)⟩
  have h4 := inB_iff.1 h3
  have H3 := Lib.hid h3
  obtain ⟨k, hk⟩ := Int.eq_ofNat_of_zero_le h4.1
  have HK := Lib.hid hk
  have hkn : k < n := by omega
  obtain ⟨b, o, s, rfl, hs, cs⟩ := (ha.below b0).st hkn
  have HS := Lib.hid hs
  have hsz := hg s (List.mem_of_getElem? hs)
  have HA : Hid (lineAt l x = s) := by show _ = _; unfold lineAt; rw [HK.out, Int.toNat_natCast, List.getD, HS.out]; rfl
  have hcl : ∀ w', Calls Tryz.prog 38 #[.string s, .agg #[.int .i64 k, .string x.old, .string x.new]] w' fun e w'' => e = .returned (.tuple #[.string (lineS s x), .bool (lineG s x)]) ∧ Below w'.heap.size w' w'' := fun w' => by
    rw [← hk]
    exact l22Line_any s x w' (by omega) (by omega) (by omega)
  rw [hk] at c0
  have k0 := cell_regrown c0
  have k1 := cell_regrown c1
  have k2 := cell_regrown c2
  have ks := cell_regrown cs
  have hG : shG l x = lineG s x := by unfold shG corrG lineG impG; rw [HL.out, h2, h3, HA.out]; simp [Bool.and_assoc]
  have HG := Lib.hid hG
  clear h3 h4 hk hs h2 hg hgm hG
  go_wp2_with fail
  refine wp_region_quiet_below (by kernel_rfl) (by kernel_rfl) ?_
  repeat (go_big_quiet_step ((go_at_call 38; exact Calls.regrown_of (hcl _))))
  refine wpQuiet_nil ?_
  intro _ hw'
  obtain ⟨⟨dq, osq⟩, hw''⟩ := hw'
  subst hw''
  replace c0 := k0 dq osq
  have t2 := below_grow b0 dq osq
  clear k0 k1 k2 ks cs c1 c2
  generalize hgw : grow (redrawn w0 dq) osq = w2 at *
  clear hgw
  cases h6 : lineG s x
  · have E := Lib.hid (show shG l x = false by rw [HG.out, h6])
    go_wp2
    go_ret2
    exact ⟨⟨_, _, _, ret_sl_bool E.out.symm, by rw [shL_no E.out]; exact (Own.empty stV 1 _ 9).base_le t2.size⟩, below_trans t2 (below_alloc _)⟩
  · have E := Lib.hid (show shG l x = true by rw [HG.out, h6])
    have F := Lib.hid (show l.set k (lineS s x) = shL l x by
      have hc : coOK x = true ∧ oneB s x.old = true := by unfold lineG at h6; simp only [Bool.and_eq_true] at h6; exact h6.1
      have : corrG l x = true := by have := E.out; unfold shG at this; rw [Bool.and_eq_true] at this; exact this.2
      rw [shL_yes E.out, corrL_yes this, HK.out, Int.toNat_natCast, HA.out, lineS_yes hc.1 hc.2])
    go_wp2_with fail
    refine (l22With_any _ _ _ _ _ _ _ (ha.below t2) (by omega) hkn).mono ?_
    rintro e w3 ⟨⟨B, d, rfl, o3⟩, b3⟩
    go_wp2
    go_ret2
    exact ⟨⟨_, _, _, ret_sl_bool E.out.symm, by rw [← F.out]; exact o3.base_le t2.size⟩, below_trans t2 b3⟩

end Go.Proofs.YtmahfkimeclcbaaGreatDoor
