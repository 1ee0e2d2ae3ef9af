/-
  YtndoapgalbljpaaDivDA: clauses: the draws of words and of clauses. (Printed by wip/gen/divdr.py.)
-/
import Derived.Test.YtndoapgalbljpaaDivS
import Derived.Test.YtndoapgalbljpaaOf
import Derived.Test.YtndoapgalbljpaaAmg
namespace Go.Proofs.Ytndoapgalbljpaa
open Go Go.RowKit Go.Sort
set_option linter.unusedVariables false

/-- A new block as a row of one element. -/
theorem own_one {α : Type} {enc : α → List Value} {sz : Nat} (w : World) (cs : Array Value) (e : TypeId) (y : α) (hcs : cs.toList = enc y) (he : (enc y).length = sz) : Own enc sz (w.alloc (.cells cs e)) w.heap.size e (some ⟨w.heap.size, 0, none⟩) 1 1 [y] :=
  ⟨rfl, by
    have := World.ownsRow_lit (base := w.heap.size) (e := e) (size := sz) w cs 1 (Nat.le_refl _) (by simp [maxLen]) (by rw [Nat.one_mul, ← he, ← hcs, Array.length_toList])
    rw [hcs] at this
    simpa using this⟩

def slLen : Value → Nat
  | .slice _ n _ => n
  | _ => 0
def GW (l : List ByteArray) : Prop := ∀ s ∈ l, s.size ≤ 24
def GC (l : List CL) : Prop := ∀ x ∈ l, GW x.ws
theorem gw_nil : GW [] := fun s hs => by cases hs
theorem gw_snoc {l : List ByteArray} {y : ByteArray} (h : GW l) (hy : y.size ≤ 24) : GW (l ++ [y]) := fun s hs => (List.mem_append.1 hs).elim (h s) fun h => by rw [List.mem_singleton.1 h]; exact hy
theorem gc_snoc {l : List CL} {x : CL} (h : GC l) (hx : GW x.ws) : GC (l ++ [x]) := fun y hy => (List.mem_append.1 hy).elim (h y) fun h => by rw [List.mem_singleton.1 h]; exact hx
theorem gc_sz {l : List CL} (h : GC l) : ∀ x ∈ l, ClSz x := fun x hx s hs => Nat.le_trans (h x hx s hs) (by simp [maxLen])
theorem InnC.cur {w w' : World} {base top g : Nat} {hs : List HC} {l : List CL} (h : InnC w base top hs l) (hg : w.grownBy w' (some g)) (hb : g < base) : InnC w' base top hs l :=
  ⟨fun i k x h1 h2 => (h.w_ i k x h1 h2).cur hg hb, fun i k x h1 h2 => (h.n_ i k x h1 h2).cur hg hb, h.dw, h.dn, h.tw, h.tn⟩
theorem OwnC.cur {w w' : World} {base top g : Nat} {A : Option Addr} {n c : Nat} {hs : List HC} {l : List CL} (h : OwnC w base top A n c hs l) (hg : w.grownBy w' (some g)) (hb : g < base) : OwnC w' base top A n c hs l :=
  ⟨h.hd.cur hg hb, h.len, h.inn.cur hg hb, h.th⟩
theorem OwnC.top_le {w : World} {base top top' : Nat} {A : Option Addr} {n c : Nat} {hs : List HC} {l : List CL} (h : OwnC w base top A n c hs l) (ht : top ≤ top') : OwnC w base top' A n c hs l :=
  ⟨h.hd, h.len, h.inn.top_le ht, fun k hk => Nat.lt_of_lt_of_le (h.th k hk) ht⟩
/-- One more element: its rows lie behind all that was. -/
theorem InnC.add {w : World} {base top top' b0 b1 : Nat} {hs : List HC} {l : List CL} {h : HC} {x : CL} (hI : InnC w base top hs l) (hlen : hs.length = l.length) (ht : top ≤ top') (g0 : base ≤ b0) (m0 : top ≤ b0) (g1 : base ≤ b1) (m1 : top ≤ b1)
    (o0 : Own stV 1 w b0 9 h.wA h.wn h.wc x.ws) (z0 : ∀ k, blockOf h.wA = some k → k < top') (o1 : Own inV 1 w b1 3 h.nA h.nn h.nc x.ns) (z1 : ∀ k, blockOf h.nA = some k → k < top') : InnC w base top' (hs ++ [h]) (l ++ [x]) := by
  have sp : ∀ (i : Nat) y, (hs ++ [h])[i]? = some y → (i < hs.length ∧ hs[i]? = some y) ∨ (i = hs.length ∧ y = h) := fun i y hy => by
    by_cases hi : i < hs.length
    · rw [List.getElem?_append_left hi] at hy; exact .inl ⟨hi, hy⟩
    · rw [List.getElem?_append_right (by omega)] at hy
      have h0 : i - hs.length = 0 := by
        have := (List.getElem?_eq_some_iff.1 hy).1
        simpa using this
      rw [h0] at hy
      exact .inr ⟨by omega, by simpa using hy.symm⟩
  have sl : ∀ (i : Nat) z, i < hs.length → (l ++ [x])[i]? = some z → l[i]? = some z := fun i z hi hz => by rw [List.getElem?_append_left (by omega)] at hz; exact hz
  have sx : ∀ z, (l ++ [x])[hs.length]? = some z → z = x := fun z hz => by
    rw [hlen, List.getElem?_append_right (Nat.le_refl _), Nat.sub_self] at hz
    simpa using hz.symm
  have ap : ∀ {A B : Option Addr} , (∀ k, blockOf A = some k → k < top) → (∀ k, blockOf B = some k → top ≤ k) → blockOf A = none ∨ blockOf A ≠ blockOf B := fun {A B} ha hb => by
    cases hA : blockOf A with
    | none => exact .inl rfl
    | some k => exact .inr fun e => by have := ha k hA; have := hb k e.symm; omega
  have ap2 : ∀ {A B : Option Addr} , (∀ k, blockOf A = some k → k < top) → (∀ k, blockOf B = some k → top ≤ k) → blockOf B = none ∨ blockOf B ≠ blockOf A := fun {A B} ha hb => by
    cases hB : blockOf B with
    | none => exact .inl rfl
    | some k => exact .inr fun e => by have := ha k e.symm; have := hb k hB; omega
  have nw : ∀ k, blockOf h.wA = some k → top ≤ k := fun k hk => Nat.le_trans m0 (o0.lt hk).1
  have nn : ∀ k, blockOf h.nA = some k → top ≤ k := fun k hk => Nat.le_trans m1 (o1.lt hk).1
  refine ⟨fun i y z hy hz => ?_, fun i y z hy hz => ?_, fun i j y z hij hy hz => ?_, fun i j y z hij hy hz => ?_, fun i y hy k hk => ?_, fun i y hy k hk => ?_⟩
  · rcases sp i y hy with ⟨hi, h1⟩ | ⟨rfl, rfl⟩
    · exact hI.w_ i y z h1 (sl i z hi hz)
    · rw [sx z hz]; exact o0.base_le g0
  · rcases sp i y hy with ⟨hi, h1⟩ | ⟨rfl, rfl⟩
    · exact hI.n_ i y z h1 (sl i z hi hz)
    · rw [sx z hz]; exact o1.base_le g1
  · rcases sp i y hy with ⟨hi, h1⟩ | ⟨rfl, rfl⟩ <;> rcases sp j z hz with ⟨hj, h2⟩ | ⟨e2, rfl⟩
    · exact hI.dw i j y z hij h1 h2
    · exact ap (fun k hk => hI.tw i y h1 k hk) nw
    · exact ap2 (fun k hk => hI.tw j z h2 k hk) nw
    · exact absurd e2.symm hij
  · rcases sp i y hy with ⟨hi, h1⟩ | ⟨rfl, rfl⟩ <;> rcases sp j z hz with ⟨hj, h2⟩ | ⟨e2, rfl⟩
    · exact hI.dn i j y z hij h1 h2
    · exact ap (fun k hk => hI.tn i y h1 k hk) nn
    · exact ap2 (fun k hk => hI.tn j z h2 k hk) nn
    · exact absurd e2.symm hij
  · rcases sp i y hy with ⟨hi, h1⟩ | ⟨rfl, rfl⟩
    · exact Nat.lt_of_lt_of_le (hI.tw i y h1 k hk) ht
    · exact z0 k hk
  · rcases sp i y hy with ⟨hi, h1⟩ | ⟨rfl, rfl⟩
    · exact Nat.lt_of_lt_of_le (hI.tn i y h1 k hk) ht
    · exact z1 k hk
/-- One clause is put behind the others. -/
theorem OwnC.push {w w5 : World} {base top b0 b1 q d d5 : Nat} {B B5 : Option Addr} {hs : List HC} {l : List CL} {h : HC} {x : CL} (H : OwnC w base top B q d hs l) (ht : top ≤ w.heap.size) (g0 : base ≤ b0) (m0 : top ≤ b0) (g1 : base ≤ b1) (m1 : top ≤ b1)
    (o0 : Own stV 1 w b0 9 h.wA h.wn h.wc x.ws) (o1 : Own inV 1 w b1 3 h.nA h.nn h.nc x.ns) (o5 : Own hCV 2 w5 base 57 B5 (q + 1) d5 (hs ++ [h])) (g5 : w.grownBy w5 (blockOf B)) : OwnC w5 base w5.heap.size B5 (q + 1) d5 (hs ++ [h]) (l ++ [x]) :=
  ⟨o5, by rw [List.length_append, H.len]; rfl, ((H.inn.add (by rw [H.hd.len, H.len]) ht g0 m0 g1 m1 o0 (blk_lt o0) o1 (blk_lt o1)).hdw H.hd g5).top_le g5.size, fun _ => blk_lt o5 _⟩

def WordsPost (g K n : Nat) (w : World) (e : Ending) (w' : World) : Prop := (∃ B q d l, e = .returned (.slice B q d) ∧ q ≤ n ∧ Own stV 1 w' w.heap.size 9 B q d l ∧ GW l) ∧ Cur w' g (K + 40) ∧ w.grownBy w' (some g)
set_option maxRecDepth 100000 in
set_option maxHeartbeats 4000000 in
theorem words_any (g K n : Nat) (w : World) (h : Cur w g K) (hK : K ≤ 99000) (hn : n ≤ 8) : Calls Try.prog 79 #[.pointer (some ⟨g, 0, none⟩), .int .i64 n] w (WordsPost g K n w) := by
  obtain ⟨s0, sii, sz0, sz1, sz2⟩ := info_parts Try.infoStJ
  have hgw := h.lt
  have C0 := Lib.hid (h.below (below_alloc (.cells #[] 9)))
  have oe : Own stV 1 (w.alloc (.cells #[] 9)) w.heap.size 9 (some ⟨w.heap.size, 0, none⟩) 0 0 [] := Own.empty stV 1 w 9
  have b0 := below_alloc (w := w) (.cells #[] 9)
  clear h
  go_enter Try.func79, Try.ntmps79
  go_wp2_with fail
  refine (pick_any g K ((n : Int) + 1) _ C0.out (by omega) (by omega) (by omega)).mono ?_
  rintro e w1 ⟨⟨x0, rfl, hx0, hx1⟩, hc, hg⟩
  obtain ⟨x0, rfl⟩ := Int.eq_ofNat_of_zero_le hx0
  have C1 := Lib.hid (hc.le (K' := K + 2 + 4 * (8 - x0)) (by omega))
  have G1 := Lib.hid (below_of_cur b0 hg)
  have L1 := Lib.hid (oe.cur hg hgw)
  clear hc hg oe b0 C0 hx0
  go_wp2
  go_loopw [5, 6] (fun v xv wr => ∃ x : Nat, x ≤ n ∧ xv = .int .i64 x ∧ (∃ B q d l, v = .slice B q d ∧ q + x ≤ n ∧ Own stV 1 wr w.heap.size 9 B q d l ∧ GW l) ∧ Cur wr g (K + 2 + 4 * (8 - x)) ∧ w.grownBy wr (some g)) (fun _ xv _ => (intOf xv).toNat)
  case atStart => exact ⟨x0, by omega, rfl, ⟨_, 0, 0, [], rfl, by omega, L1.out, gw_nil⟩, C1.out, G1.out⟩
  case round =>
    clear C1 G1 L1 hx1
    obtain ⟨x, hx, rfl, ⟨B, q, d, l, rfl, hq, ho, hgl⟩, hc, hg⟩ := hrel
    have L1 := Lib.hid ho
    have C1 := Lib.hid hc
    have G1 := Lib.hid hg
    have GL := Lib.hid hgl
    have hgr := hc.lt
    clear ho hc hg hgl
    by_cases hx0 : 0 < x
    · have Cq := Lib.hid (C1.out.below (below_alloc (.cells #[.string ⟨#[116, 104, 101]⟩, .string ⟨#[102, 101, 101]⟩, .string ⟨#[105, 115]⟩, .string ⟨#[116, 101, 110]⟩, .string ⟨#[115, 104, 97, 108, 108]⟩, .string ⟨#[110, 111, 116]⟩, .string ⟨#[98, 101]⟩, .string ⟨#[112, 97, 105, 100]⟩] 9)))
      have Gq := Lib.hid (grown_below G1.out (below_alloc (.cells #[.string ⟨#[116, 104, 101]⟩, .string ⟨#[102, 101, 101]⟩, .string ⟨#[105, 115]⟩, .string ⟨#[116, 101, 110]⟩, .string ⟨#[115, 104, 97, 108, 108]⟩, .string ⟨#[110, 111, 116]⟩, .string ⟨#[98, 101]⟩, .string ⟨#[112, 97, 105, 100]⟩] 9)))
      have Lq := Lib.hid (L1.out.below (below_alloc (.cells #[.string ⟨#[116, 104, 101]⟩, .string ⟨#[102, 101, 101]⟩, .string ⟨#[105, 115]⟩, .string ⟨#[116, 101, 110]⟩, .string ⟨#[115, 104, 97, 108, 108]⟩, .string ⟨#[110, 111, 116]⟩, .string ⟨#[98, 101]⟩, .string ⟨#[112, 97, 105, 100]⟩] 9)))
      go_wp2_with fail
      have Aq := Lib.hid (rd_lit (w := wr.alloc (.cells #[.string ⟨#[116, 104, 101]⟩, .string ⟨#[102, 101, 101]⟩, .string ⟨#[105, 115]⟩, .string ⟨#[116, 101, 110]⟩, .string ⟨#[115, 104, 97, 108, 108]⟩, .string ⟨#[110, 111, 116]⟩, .string ⟨#[98, 101]⟩, .string ⟨#[112, 97, 105, 100]⟩] 9)) (k := wr.heap.size) (n := 8) (l := ([⟨#[116, 104, 101]⟩, ⟨#[102, 101, 101]⟩, ⟨#[105, 115]⟩, ⟨#[116, 101, 110]⟩, ⟨#[115, 104, 97, 108, 108]⟩, ⟨#[110, 111, 116]⟩, ⟨#[98, 101]⟩, ⟨#[112, 97, 105, 100]⟩] : List ByteArray)) (enc := stV) (heap_new (by first | rfl | simp)) stV_len rfl (by simp [maxLen]) rfl)
      have hgs : g < wr.heap.size := by first | omega | (have := C1.out.lt; simpa using this)
      refine (of_any g (K + 2 + 4 * (8 - x)) _ 8 8 _ _ (Cq.out.le (by omega)) (by omega) Aq.out (by omega) (by omega) (fun a ha => by injection ha with ha; subst ha; first | omega | (simp; done) | (simp; omega) | (simp at hgs ⊢; omega))).mono ?_
      rintro e w2 ⟨⟨y, rfl, hx⟩, hc, hg⟩
      have Xy := Lib.hid (of_sz (m := 24) hx (by decide))
      have C2 := Lib.hid hc
      have G2 := Lib.hid (grown_trans Gq.out hg)
      have L2 := Lib.hid (Lq.out.cur hg hgw)
      clear hx hc hg hgs Cq Gq Aq C1 G1 Lq L1
      go_wp2_with (
       at_builtin
       refine wpList_push rfl (.tmp 16) (.tmp 20) _ rfl w.heap.size 9 s0 (.string ByteArray.empty) 1 16 Try.underlying45 sii sz0 sz1 sz2 rfl (by omega) stV stV_len one_stJ B q d _ rfl L2.out (y : ByteArray) _ rfl _ rfl (by first | rfl | simp) (by simp only [maxLen]; omega) (by omega) G2.out.size ?_
       intro B4 d4 w4 o4 g4
       have hr4 : ∀ k, blockOf B = some k → w.heap.size ≤ k := fun k hk => (L2.out.lt hk).1
       have C4 := Lib.hid (C2.out.grown g4 (fun k hk => by have := hr4 k hk; omega))
       have G4 := Lib.hid (grown_row G2.out g4 hr4)
       have L4 := Lib.hid o4
       clear o4 g4 C2 G2 L2)
      go_roundw
      case rel => exact ⟨x - 1, by omega, by go_num, ⟨B4, q + 1, d4, _, rfl, by omega, L4.out, gw_snoc GL.out Xy.out⟩, C4.out.le (by omega), G4.out⟩
      case measure => first | (simp [intOf]; done) | (simp [intOf]; omega)
    · obtain rfl : x = 0 := by omega
      go_wp2
      go_ret
      exact ⟨⟨_, _, _, _, rfl, by omega, L1.out, GL.out⟩, C1.out.le (by omega), G1.out⟩


theorem words_any' (g K n : Nat) (m : Int) (hm : m = (n : Int)) (w : World) (h : Cur w g K) (hK : K ≤ 99000) (hn : n ≤ 8) : Calls Try.prog 79 #[.pointer (some ⟨g, 0, none⟩), .int .i64 m] w (WordsPost g K n w) := by
  subst hm; exact words_any g K n w h hK hn
theorem _root_.Go.World.grownBy.below {w a b : World} {r : Option Nat} (h : w.grownBy a r) (hb : Below a.heap.size a b) : w.grownBy b r := grown_below h hb
theorem OwnC.off_w {w w' : World} {base b' top : Nat} {B A : Option Addr} {q d n c : Nat} {hs : List HC} {l : List CL} {r : List ByteArray} (h : OwnC w base top B q d hs l) (hO : Own stV 1 w b' 9 A n c r) (hg : w.grownBy w' (blockOf A)) (hb : top ≤ b') : OwnC w' base top B q d hs l :=
  ⟨h.hd.grown hg (h.hd.ne_block hO (by decide)), h.len, h.inn.off_w hO hg h.hlen hb, h.th⟩
theorem OwnC.off_n {w w' : World} {base b' top : Nat} {B A : Option Addr} {q d n c : Nat} {hs : List HC} {l : List CL} {r : List Int} (h : OwnC w base top B q d hs l) (hO : Own inV 1 w b' 3 A n c r) (hg : w.grownBy w' (blockOf A)) (hb : top ≤ b') : OwnC w' base top B q d hs l :=
  ⟨h.hd.grown hg (h.hd.ne_block hO (by decide)), h.len, h.inn.off_n hO hg h.hlen hb, h.th⟩
theorem OwnC.off_c {w w' : World} {base b' top gx : Nat} {B : Option Addr} {q d n c : Nat} {hs : List HC} {l : List CL} {r : List HC} (h : OwnC w base top B q d hs l) (hO : Own hCV 2 w b' 57 (some ⟨gx, 0, none⟩) n c r) (hg : w.grownBy w' (some gx)) (hb : top ≤ gx) : OwnC w' base top B q d hs l :=
  ⟨h.hd.grown hg (.inr fun e => by have := h.th _ e; omega), h.len, h.inn.hdw hO hg, h.th⟩
theorem own_xyz (w : World) : Own stV 1 (w.alloc (.cells #[.string ⟨#[120]⟩, .string ⟨#[121]⟩, .string ⟨#[122]⟩] 9)) w.heap.size 9 (some ⟨w.heap.size, 0, none⟩) 3 3 [⟨#[120]⟩, ⟨#[121]⟩, ⟨#[122]⟩] := ⟨rfl, by
    have := World.ownsRow_lit (base := w.heap.size) (e := 9) (size := 1) w #[.string ⟨#[120]⟩, .string ⟨#[121]⟩, .string ⟨#[122]⟩] 3 (Nat.le_refl _) (by simp [maxLen]) rfl
    simpa [stV] using this⟩
def ClausePost (g K : Nat) (w : World) (e : Ending) (w' : World) : Prop := (∃ B q d hs l, e = .returned (.slice B q d) ∧ q ≤ 16 ∧ OwnC w' w.heap.size w'.heap.size B q d hs l ∧ GC l) ∧ Cur w' g (K + 600) ∧ w.grownBy w' (some g)
set_option maxRecDepth 100000 in
set_option maxHeartbeats 16000000 in
theorem clauses_any (g K : Nat) (w : World) (h : Cur w g K) (hK : K ≤ 90000) : Calls Try.prog 56 #[.pointer (some ⟨g, 0, none⟩)] w (ClausePost g K w) := by
  obtain ⟨l0, lii, lz0, lz1, lz2⟩ := info_parts Try.infoClJ
  obtain ⟨s0, sii, sz0, sz1, sz2⟩ := info_parts Try.infoStJ
  obtain ⟨i0, iii, iz0, iz1, iz2⟩ := info_parts Try.infoInP
  have hgw := h.lt
  have C0 := Lib.hid (h.below (below_alloc (.cells #[] 57)))
  have oe : OwnC (w.alloc (.cells #[] 57)) w.heap.size (w.alloc (.cells #[] 57)).heap.size (some ⟨w.heap.size, 0, none⟩) 0 0 [] [] := ⟨Own.empty hCV 2 w 57, rfl, InnC.nil _ _ _ _, fun _ => blk_lt (Own.empty hCV 2 w 57) _⟩
  have b0 := below_alloc (w := w) (.cells #[] 57)
  clear h
  go_enter Try.func56, Try.ntmps56
  go_wp2_with fail
  refine (pick_any g K 7 _ C0.out (by omega) (by omega) (by omega)).mono ?_
  rintro e w1 ⟨⟨x0, rfl, hx0, hx1⟩, hc, hg⟩
  obtain ⟨x0, rfl⟩ := Int.eq_ofNat_of_zero_le hx0
  have C1 := Lib.hid (hc.le (K' := K + 2 + 60 * (6 - x0)) (by omega))
  have G1 := Lib.hid (below_of_cur b0 hg)
  have L1 := Lib.hid ((oe.cur hg hgw).top_le hg.size)
  clear hc hg oe b0 C0 hx0
  go_wp2
  go_loopw [3, 4] (fun v xv wr => ∃ x : Nat, x ≤ 6 ∧ xv = .int .i64 x ∧ (∃ B q d hs l, v = .slice B q d ∧ q + x ≤ 6 ∧ OwnC wr w.heap.size wr.heap.size B q d hs l ∧ GC l) ∧ Cur wr g (K + 2 + 60 * (6 - x)) ∧ w.grownBy wr (some g)) (fun _ xv _ => (intOf xv).toNat)
  case atStart => exact ⟨x0, by omega, rfl, ⟨_, 0, 0, [], [], rfl, by omega, L1.out, fun x hx => by cases hx⟩, C1.out, G1.out⟩
  case round =>
    clear C1 G1 L1 hx1
    obtain ⟨x, hx, rfl, ⟨B, q, d, hs, l, rfl, hq, ho, hgl⟩, hc, hg⟩ := hrel
    have L1 := Lib.hid ho
    have C1 := Lib.hid hc
    have G1 := Lib.hid hg
    have GL := Lib.hid hgl
    have hwr := hg.size
    clear ho hc hg hgl
    by_cases hx0 : 0 < x
    · obtain ⟨wv, hwv⟩ : ∃ wv : World, wv = wr := ⟨_, rfl⟩
      subst hwv
      have hgv : g < wv.heap.size := by omega
      go_wp2_with fail
      refine (words_any' g (K + 2 + 60 * (6 - x)) 2 _ rfl _ C1.out (by omega) (by omega)).mono ?_
      rintro e w1 ⟨⟨BW, qw, dw, lw, rfl, hqw, ow, hgw1⟩, hc, hg⟩
      have Cv := Lib.hid hc
      have Gv := Lib.hid (grown_trans G1.out hg)
      have Ev := Lib.hid hg
      have Lv := Lib.hid (L1.out.cur hg hgw)
      have Vv := Lib.hid ow
      have GWl := Lib.hid hgw1
      clear hc hg ow hgw1 C1 L1
      have Cq := Lib.hid (Cv.out.below (below_alloc (.cells #[.string ⟨#[112, 97, 121]⟩, .string ⟨#[99, 108, 111, 115, 101]⟩, .string ⟨#[111, 112, 101, 110]⟩] 9)))
      have Gq := Lib.hid (grown_below Gv.out (below_alloc (.cells #[.string ⟨#[112, 97, 121]⟩, .string ⟨#[99, 108, 111, 115, 101]⟩, .string ⟨#[111, 112, 101, 110]⟩] 9)))
      have Lq := Lib.hid (Lv.out.below (below_alloc (.cells #[.string ⟨#[112, 97, 121]⟩, .string ⟨#[99, 108, 111, 115, 101]⟩, .string ⟨#[111, 112, 101, 110]⟩] 9)))
      have Vq := Lib.hid (Vv.out.below (below_alloc (.cells #[.string ⟨#[112, 97, 121]⟩, .string ⟨#[99, 108, 111, 115, 101]⟩, .string ⟨#[111, 112, 101, 110]⟩] 9)))
      have Eq := Lib.hid (Ev.out.below (below_alloc (.cells #[.string ⟨#[112, 97, 121]⟩, .string ⟨#[99, 108, 111, 115, 101]⟩, .string ⟨#[111, 112, 101, 110]⟩] 9)))
      go_wp2_with fail
      have Aq := Lib.hid (rd_lit (w := w1.alloc (.cells #[.string ⟨#[112, 97, 121]⟩, .string ⟨#[99, 108, 111, 115, 101]⟩, .string ⟨#[111, 112, 101, 110]⟩] 9)) (k := w1.heap.size) (n := 3) (l := ([⟨#[112, 97, 121]⟩, ⟨#[99, 108, 111, 115, 101]⟩, ⟨#[111, 112, 101, 110]⟩] : List ByteArray)) (enc := stV) (heap_new (by first | rfl | simp)) stV_len rfl (by simp [maxLen]) rfl)
      have hgs : g < w1.heap.size := by first | omega | (have := Cv.out.lt; simpa using this)
      refine (of_any g (K + 2 + 60 * (6 - x) + 40) _ 3 3 _ _ (Cq.out.le (by omega)) (by omega) Aq.out (by omega) (by omega) (fun a ha => by injection ha with ha; subst ha; first | omega | (simp; done) | (simp; omega) | (simp at hgs ⊢; omega))).mono ?_
      rintro e w2 ⟨⟨y, rfl, hx⟩, hc, hg⟩
      have Xy := Lib.hid (of_sz (m := 24) hx (by decide))
      have C2 := Lib.hid hc
      have G2 := Lib.hid (grown_trans Gq.out hg)
      have L2 := Lib.hid (Lq.out.cur hg hgw)
      have V2 := Lib.hid (Vq.out.cur hg hgv)
      have E2 := Lib.hid (Eq.out.trans hg)
      clear hx hc hg hgs Cq Gq Aq Cv Gv Lq Lv Vq Vv Eq Ev
      have hv2 := E2.out.size
      go_wp2_with (
       at_builtin
       refine wpList_push rfl (.tmp 16) (.tmp 20) _ rfl wv.heap.size 9 s0 (.string ByteArray.empty) 1 16 Try.underlying45 sii sz0 sz1 sz2 rfl (by omega) stV stV_len one_stJ BW qw dw _ rfl V2.out (y : ByteArray) _ rfl _ rfl (by first | rfl | simp) (by simp only [maxLen]; omega) (by omega) hv2 ?_
       intro B4 d4 w4 o4 g4
       have hr4 : ∀ k, blockOf BW = some k → wv.heap.size ≤ k := fun k hk => (V2.out.lt hk).1
       have hz4 : wv.heap.size ≤ w4.heap.size := Nat.le_trans hv2 g4.size
       have b5 := below_alloc (w := w4) (.cells #[.slice B4 (qw + 1) d4, .slice none 0 0] 57)
       have C5 := Lib.hid ((C2.out.grown g4 (fun k hk => by have := hr4 k hk; omega)).below b5)
       have E5 := Lib.hid (grown_below (grown_row E2.out g4 hr4) b5)
       have L5 := Lib.hid ((L2.out.off_w V2.out g4 (Nat.le_refl _)).below b5)
       have V5 := Lib.hid (o4.below b5)
       have X5 := Lib.hid (Own.one (base := wv.heap.size) (h := ⟨B4, qw + 1, d4, none, 0, 0⟩) (heap_new rfl) hz4 : Own hCV 2 (w4.alloc (.cells #[.slice B4 (qw + 1) d4, .slice none 0 0] 57)) wv.heap.size 57 (some ⟨w4.heap.size, 0, none⟩) 1 1 [⟨B4, qw + 1, d4, none, 0, 0⟩])
       clear b5 o4 g4 C2 G2 L2 V2 E2)
      generalize hw5 : w4.alloc (.cells #[.slice B4 (qw + 1) d4, .slice none 0 0] 57) = w5 at *
      clear hw5
      go_loopw [6] (fun jv wr => ∃ j : Nat, j ≤ q ∧ jv = .int .i64 j ∧ (∃ Bx qx dx lx, qx ≤ j ∧ Own hCV 2 wr wv.heap.size 57 (some ⟨w4.heap.size, 0, none⟩) 1 1 [⟨B4, qw + 1, d4, Bx, qx, dx⟩] ∧ Own inV 1 wr wv.heap.size 3 Bx qx dx lx) ∧ Own stV 1 wr wv.heap.size 9 B4 (qw + 1) d4 (lw ++ [y]) ∧ OwnC wr w.heap.size wv.heap.size B q d hs l ∧ Cur wr g (K + 2 + 60 * (6 - x) + 44 + 2 * j) ∧ wv.grownBy wr (some g)) (fun jv _ => q - (intOf jv).toNat)
      case atStart => exact ⟨0, Nat.zero_le _, rfl, ⟨none, 0, 0, [], Nat.le_refl _, X5.out, Own.nil _ _ _⟩, V5.out, L5.out, C5.out.le (by omega), E5.out⟩
      case round =>
        clear X5 V5 L5 C5 E5
        obtain ⟨j, hj, rfl, ⟨Bx, qx, dx, lx, hqx, ox, ob⟩, ov, oL, hc, hE⟩ := hrel
        have X1 := Lib.hid ox
        have N1 := Lib.hid ob
        have V1 := Lib.hid ov
        have L1 := Lib.hid oL
        have C1 := Lib.hid hc
        have E1 := Lib.hid hE
        have hv1 := hE.size
        clear ox ob ov oL hc hE
        by_cases hjq : j < q
        · go_wp2_with fail
          refine (one_any g (K + 2 + 60 * (6 - x) + 44 + 2 * j) 4 _ C1.out (by omega) (by omega) (by omega)).mono ?_
          rintro e w6 ⟨⟨y4, rfl⟩, hc, hg⟩
          have X6 := Lib.hid (X1.out.cur hg hgv)
          have N6 := Lib.hid (N1.out.cur hg hgv)
          have V6 := Lib.hid (V1.out.cur hg hgv)
          have L6 := Lib.hid (L1.out.cur hg hgw)
          have C2 := Lib.hid hc
          have E2 := Lib.hid (E1.out.trans hg)
          have hv6 := E2.out.size
          clear hc hg X1 N1 V1 L1 C1 E1
          cases y4
          · go_wp2
            go_roundw
            case rel => exact ⟨j + 1, by omega, by go_num, ⟨Bx, qx, dx, lx, by omega, X6.out, N6.out⟩, V6.out, L6.out, C2.out.le (by omega), E2.out⟩
            case measure => first | (simp [intOf]; done) | (simp [intOf]; omega)
          · have cx1 : w6.cell? ⟨w4.heap.size, 1, none⟩ = some (.slice Bx qx dx) := X6.out.cell hCV_len (i := 0) (j := 1) rfl rfl
            go_wp2_with (
             at_builtin
             refine wpList_push rfl (.tmp 32) (.tmp 34) _ rfl wv.heap.size 3 i0 (.int .i64 0) 1 8 Try.underlying38 iii iz0 iz1 iz2 rfl (by omega) inV inV_len one_intP Bx qx dx _ rfl N6.out ((j : Int) : Int) _ rfl _ rfl (by first | rfl | simp) (by simp only [maxLen]; omega) (by omega) hv6 ?_
             intro B4' d4' w7 o7 g7
             have hr7 : ∀ k, blockOf Bx = some k → wv.heap.size ≤ k := fun k hk => (N6.out.lt hk).1
             have C7 := Lib.hid (C2.out.grown g7 (fun k hk => by have := hr7 k hk; omega))
             have E7 := Lib.hid (grown_row E2.out g7 hr7)
             have X7 := Lib.hid (X6.out.grown g7 (X6.out.ne_block N6.out (by decide)))
             have V7 := Lib.hid (V6.out.grown g7 (V6.out.ne_block N6.out (by decide)))
             have L7 := Lib.hid (L6.out.off_n N6.out g7 (Nat.le_refl _))
             have N7 := Lib.hid o7
             have cx7 : w7.cell? ⟨w4.heap.size, 1, none⟩ = some (.slice Bx qx dx) := X7.out.cell hCV_len (i := 0) (j := 1) rfl rfl
             have fx7 : w7.frozen? ⟨w4.heap.size, 1, none⟩ = false := X7.out.frozen 1
             have ST : Hid (Own hCV 2 (w7.setCell ⟨w4.heap.size, 1, none⟩ (.slice B4' (qx + 1) d4')) wv.heap.size 57 (some ⟨w4.heap.size, 0, none⟩) 1 1 [⟨B4, qw + 1, d4, B4', qx + 1, d4'⟩] ∧ w7.grownBy (w7.setCell ⟨w4.heap.size, 1, none⟩ (.slice B4' (qx + 1) d4')) (some w4.heap.size)) := X7.out.store hCV_len (i := 0) (j := 1) rfl (by omega) (⟨B4, qw + 1, d4, B4', qx + 1, d4'⟩ : HC) (.slice B4' (qx + 1) d4') rfl
             clear o7 g7 C2 E2 X6 V6 L6 N6)
            go_roundw
            case rel => exact ⟨j + 1, by omega, by go_num, ⟨B4', qx + 1, d4', _, by omega, ST.out.1, N7.out.grown ST.out.2 (N7.out.ne_block X7.out (by decide))⟩, V7.out.grown ST.out.2 (V7.out.ne_block X7.out (by decide)), L7.out.off_c X7.out ST.out.2 hz4, (C7.out.grown ST.out.2 (fun k hk => by injection hk with hk; omega)).le (by omega), grown_row E7.out ST.out.2 (fun k hk => by injection hk with hk; omega)⟩
            case measure => first | (simp [intOf]; done) | (simp [intOf]; omega)
        · obtain rfl : j = q := by omega
          have cx0 : wr.cell? ⟨w4.heap.size, 0, none⟩ = some (.slice B4 (qw + 1) d4) := X1.out.cell hCV_len (i := 0) (j := 0) rfl rfl
          have cx1 : wr.cell? ⟨w4.heap.size, 1, none⟩ = some (.slice Bx qx dx) := X1.out.cell hCV_len (i := 0) (j := 1) rfl rfl
          have hw1 : w.heap.size ≤ wr.heap.size := by omega
          go_wp2_with (
           at_builtin
           refine wpList_push rfl (.tmp 37) (.tmp 39) _ rfl w.heap.size 57 l0 (.agg #[.slice none 0 0, .slice none 0 0]) 2 48 Try.underlying24 lii lz0 lz1 lz2 rfl (by omega) hCV hCV_len one_hcJ B j d hs rfl L1.out.hd (⟨B4, qw + 1, d4, Bx, qx, dx⟩ : HC) _ rfl _ rfl (by first | rfl | simp) (by simp only [maxLen]; omega) (by omega) hw1 ?_
           intro B8 d8 w8 o8 g8
           have hr8 : ∀ k, blockOf B = some k → w.heap.size ≤ k := fun k hk => (L1.out.hd.lt hk).1
           have C8 := Lib.hid (C1.out.grown g8 (fun k hk => by have := hr8 k hk; omega))
           have G8 := Lib.hid (grown_row (grown_trans G1.out E1.out) g8 hr8)
           have L8 := Lib.hid (L1.out.push (h := ⟨B4, qw + 1, d4, Bx, qx, dx⟩) (x := ⟨lw ++ [y], lx⟩) hv1 hwr (Nat.le_refl _) hwr (Nat.le_refl _) V1.out N1.out o8 g8)
           clear o8 g8)
          go_roundw
          case rel => exact ⟨x - 1, by omega, by go_num, ⟨B8, j + 1, d8, _, _, rfl, by omega, L8.out, gc_snoc GL.out (gw_snoc GWl.out Xy.out)⟩, C8.out.le (by omega), G8.out⟩
          case measure => first | (simp [intOf]; done) | (simp [intOf]; omega)
    · obtain rfl : x = 0 := by omega
      clear hx hx0
      have Gw := G1
      have E1 := Lib.hid (World.grownBy.refl wr (some g))
      go_wp2_with fail
      refine (pick_any g (K + 2 + 60 * (6 - 0)) 24 _ (C1.out.le (by omega)) (by omega) (by omega) (by omega)).mono ?_
      rintro e w2 ⟨⟨s, rfl, s_0, s_1⟩, hc, hg⟩
      have C2 := Lib.hid hc
      have G2 := Lib.hid (grown_trans G1.out hg)
      have L2 := Lib.hid (L1.out.cur hg hgw)
      have E2 := Lib.hid (E1.out.trans hg)
      clear hc hg C1 G1 L1 E1
      have L2t := Lib.hid (L2.out.top_le E2.out.size)
      by_cases hs0 : s = 0
      · subst hs0
        go_wp2_with fail
        refine (words_any' g (K + 400) 1 _ rfl _ (C2.out.le (by omega)) (by omega) (by omega)).mono ?_
        rintro e w3 ⟨⟨BW, qw, dw, lw, rfl, hqw, ow, hgw1⟩, hc, hg⟩
        have hw02 := G2.out.size
        have hgv2 : g < w2.heap.size := by omega
        have hw23 := hg.size
        have Cv := Lib.hid hc
        have Gv := Lib.hid (grown_trans G2.out hg)
        have Lv := Lib.hid (L2t.out.cur hg hgw)
        have Vv := Lib.hid ow
        have GWl := Lib.hid hgw1
        clear hc hg ow hgw1 C2 G2 L2 L2t E2
        go_wp2_with fail
        refine (pick_any g (K + 440) 8 _ (Cv.out.le (by omega)) (by omega) (by omega) (by omega)).mono ?_
        rintro e w4 ⟨⟨z, rfl, z_0, z_1⟩, hc, hg⟩
        have hw34 := hg.size
        have b4 := below_alloc (w := w4) (.cells #[.int .i64 z] 3)
        have hz4 : w4.heap.size ≤ (w4.alloc (.cells #[.int .i64 z] 3)).heap.size := b4.size
        have C2 := Lib.hid (hc.below b4)
        have G2 := Lib.hid (grown_below (grown_trans Gv.out hg) b4)
        have L2 := Lib.hid ((Lv.out.cur hg hgw).below b4)
        have V2 := Lib.hid ((Vv.out.cur hg hgv2).below b4)
        have N2 := Lib.hid (own_one (enc := inV) (sz := 1) w4 #[.int .i64 z] 3 z rfl rfl)
        have hw2 := G2.out.size
        clear hc hg Cv Gv Lv Vv b4
        go_wp2_with (
         at_builtin
         refine wpList_push rfl (.tmp 45) (.tmp 52) _ rfl w.heap.size 57 l0 (.agg #[.slice none 0 0, .slice none 0 0]) 2 48 Try.underlying24 lii lz0 lz1 lz2 rfl (by omega) hCV hCV_len one_hcJ B q d hs rfl L2.out.hd (⟨BW, qw, dw, some ⟨w4.heap.size, 0, none⟩, 1, 1⟩ : HC) _ rfl _ rfl (by first | rfl | simp) (by simp only [maxLen]; omega) (by omega) hw2 ?_
         intro B8 d8 w8 o8 g8
         have hr8 : ∀ k, blockOf B = some k → w.heap.size ≤ k := fun k hk => (L2.out.hd.lt hk).1
         have C8 := Lib.hid (C2.out.grown g8 (fun k hk => by have := hr8 k hk; omega))
         have G8 := Lib.hid (grown_row G2.out g8 hr8)
         have L8 := Lib.hid (L2.out.push (h := ⟨BW, qw, dw, some ⟨w4.heap.size, 0, none⟩, 1, 1⟩) (x := ⟨lw, [z]⟩) (by omega) (by omega) (by omega) (by omega) (by omega) V2.out N2.out o8 g8)
         clear o8 g8)
        go_wp2
        go_ret
        exact ⟨⟨_, _, _, _, _, rfl, by omega, L8.out, gc_snoc GL.out GWl.out⟩, C8.out.le (by omega), G8.out⟩
      · have es0 : (s == 0) = false := by simp; omega
        by_cases hs1 : s = 1
        · subst hs1
          have b4 := below_alloc (w := w2) (.cells #[.string ⟨#[65]⟩] 9)
          have hz4 : w2.heap.size ≤ (w2.alloc (.cells #[.string ⟨#[65]⟩] 9)).heap.size := b4.size
          have Ca := Lib.hid (C2.out.below b4)
          have Ga := Lib.hid (grown_below G2.out b4)
          have La := Lib.hid (L2t.out.below b4)
          have Va := Lib.hid (own_one (enc := stV) (sz := 1) w2 #[.string ⟨#[65]⟩] 9 (⟨#[65]⟩ : ByteArray) rfl rfl)
          have hw2 := Ga.out.size
          have hw3 := G2.out.size
          clear C2 G2 L2 L2t E2 b4
          have C2 := Ca
          have G2 := Ga
          have L2 := La
          clear Ca Ga La
          go_wp2_with (
           at_builtin
           refine wpList_push rfl (.tmp 56) (.tmp 59) _ rfl w.heap.size 57 l0 (.agg #[.slice none 0 0, .slice none 0 0]) 2 48 Try.underlying24 lii lz0 lz1 lz2 rfl (by omega) hCV hCV_len one_hcJ B q d hs rfl L2.out.hd (⟨some ⟨w2.heap.size, 0, none⟩, 1, 1, none, 0, 0⟩ : HC) _ rfl _ rfl (by first | rfl | simp) (by simp only [maxLen]; omega) (by omega) hw2 ?_
           intro B8 d8 w8 o8 g8
           have hr8 : ∀ k, blockOf B = some k → w.heap.size ≤ k := fun k hk => (L2.out.hd.lt hk).1
           have C8 := Lib.hid (C2.out.grown g8 (fun k hk => by have := hr8 k hk; omega))
           have G8 := Lib.hid (grown_row G2.out g8 hr8)
           have L8 := Lib.hid (L2.out.push (h := ⟨some ⟨w2.heap.size, 0, none⟩, 1, 1, none, 0, 0⟩) (x := ⟨[⟨#[65]⟩], []⟩) (by omega) (by omega) (by omega) (by omega) (by omega) Va.out (Own.nil (enc := inV) (sz := 1) _ w2.heap.size 3) o8 g8)
           clear o8 g8)
          go_wp2
          go_ret
          exact ⟨⟨_, _, _, _, _, rfl, by omega, L8.out, gc_snoc GL.out (fun s hs => by rw [List.mem_singleton.1 hs]; decide)⟩, C8.out.le (by omega), G8.out⟩
        · have es1 : (s == 1) = false := by simp; omega
          by_cases hs2 : s = 2
          · subst hs2
            go_wp2
            go_loopw [3, 7] (fun v nv wr => ∃ n : Nat, n ≤ 10 ∧ nv = .int .i64 n ∧ (∃ B q d hs l, v = .slice B q d ∧ q ≤ 6 + n ∧ OwnC wr w.heap.size wr.heap.size B q d hs l ∧ GC l) ∧ Cur wr g (K + 410 + 2 * n) ∧ w.grownBy wr (some g)) (fun _ nv _ => 11 - (intOf nv).toNat)
            case atStart => exact ⟨0, by omega, rfl, ⟨_, _, _, _, _, rfl, by omega, L2t.out, GL.out⟩, C2.out.le (by omega), G2.out⟩
            case round =>
              clear C2 G2 L2 L2t GL E2 Gw
              obtain ⟨n, hn, rfl, ⟨B, q, d, hs, l, rfl, hq, ho, hgl⟩, hc, hg⟩ := hrel
              have GL := Lib.hid hgl
              have L1 := Lib.hid ho
              have C1 := Lib.hid hc
              have G1 := Lib.hid hg
              clear ho hc hg hgl
              go_wp2_with fail
              refine (pick_any g (K + 410 + 2 * n) 2 _ C1.out (by omega) (by omega) (by omega)).mono ?_
              rintro e w2 ⟨⟨z, rfl, z_0, z_1⟩, hc, hg⟩
              have Ca := Lib.hid hc
              have Ga := Lib.hid (grown_trans G1.out hg)
              have La := Lib.hid ((L1.out.cur hg hgw).top_le hg.size)
              have hw3 := Ga.out.size
              clear hc hg C1 G1 L1
              by_cases hb1 : (q : Int) < 8 + z
              · by_cases hb2 : (n : Int) < 10
                · have b4 := below_alloc (w := w2) (.cells #[.string ⟨#[120]⟩, .string ⟨#[121]⟩, .string ⟨#[122]⟩] 9)
                  have hz4 : w2.heap.size ≤ (w2.alloc (.cells #[.string ⟨#[120]⟩, .string ⟨#[121]⟩, .string ⟨#[122]⟩] 9)).heap.size := b4.size
                  have C2 := Lib.hid (Ca.out.below b4)
                  have G2 := Lib.hid (grown_below Ga.out b4)
                  have L2 := Lib.hid (La.out.below b4)
                  have Va := Lib.hid (own_xyz w2)
                  have hw2 := G2.out.size
                  clear Ca Ga La b4
                  go_wp2_with (
                   at_builtin
                   refine wpList_push rfl (.tmp 75) (.tmp 78) _ rfl w.heap.size 57 l0 (.agg #[.slice none 0 0, .slice none 0 0]) 2 48 Try.underlying24 lii lz0 lz1 lz2 rfl (by omega) hCV hCV_len one_hcJ B q d hs rfl L2.out.hd (⟨some ⟨w2.heap.size, 0, none⟩, 3, 3, none, 0, 0⟩ : HC) _ rfl _ rfl (by first | rfl | simp) (by simp only [maxLen]; omega) (by omega) hw2 ?_
                   intro B8 d8 w8 o8 g8
                   have hr8 : ∀ k, blockOf B = some k → w.heap.size ≤ k := fun k hk => (L2.out.hd.lt hk).1
                   have C8 := Lib.hid (C2.out.grown g8 (fun k hk => by have := hr8 k hk; omega))
                   have G8 := Lib.hid (grown_row G2.out g8 hr8)
                   have L8 := Lib.hid (L2.out.push (h := ⟨some ⟨w2.heap.size, 0, none⟩, 3, 3, none, 0, 0⟩) (x := ⟨[⟨#[120]⟩, ⟨#[121]⟩, ⟨#[122]⟩], []⟩) (by omega) (by omega) (by omega) (by omega) (by omega) Va.out (Own.nil (enc := inV) (sz := 1) _ w2.heap.size 3) o8 g8)
                   clear o8 g8)
                  go_roundw
                  case rel => exact ⟨n + 1, by omega, by go_num, ⟨B8, q + 1, d8, _, _, rfl, by omega, L8.out, gc_snoc GL.out (fun s hs => by simp only [List.mem_cons, List.not_mem_nil, or_false] at hs; rcases hs with rfl | rfl | rfl <;> decide)⟩, C8.out.le (by omega), G8.out⟩
                  case measure => first | (simp [intOf]; done) | (simp [intOf]; omega)
                · go_wp2
                  go_ret
                  exact ⟨⟨_, _, _, _, _, rfl, by omega, La.out, GL.out⟩, (Ca.out.le (by omega)), Ga.out⟩
              · go_wp2
                go_ret
                exact ⟨⟨_, _, _, _, _, rfl, by omega, La.out, GL.out⟩, (Ca.out.le (by omega)), Ga.out⟩
          · have es2 : (s == 2) = false := by simp; omega
            go_wp2
            go_ret
            exact ⟨⟨_, _, _, _, _, rfl, by omega, L2t.out, GL.out⟩, (C2.out.le (by omega)), G2.out⟩


end Go.Proofs.Ytndoapgalbljpaa
