/-
  hmac's mac, Mac, Extract, Right; octet's Same. Conditions: texts not too long.
-/
import Derived.Test.YtecmagenlbnchaaQHmacPad
import Derived.Test.YtecmagenlbnchaaQShaSums02
import Derived.Test.YtecmagenlbnchaaQCut
import Derived.Deep.Matrix
namespace Go.Proofs.Ytecmagenlbnchaa
set_option maxRecDepth 100000
open Go.RowKit

theorem infoTB : (Try.prog.info? 25).map (fun i => (i.zero, i.size, i.bytes)) = some (some (.slice none 0 0), 1, 24) := by kernel_rfl
/-- The slices of a row of texts, as values. -/
theorem TextsAt.vals {w : World} {ao : Option Addr} {ls : List (List Nat)} (h : TextsAt w ao ls) : ∃ vs : List Value, vs.length = ls.length ∧ (∀ (j : Nat) (u : Value), vs[j]? = some u → ∃ ad, ao = some ad ∧ w.cell? (ad.add j) = some u) ∧ (∀ u ∈ vs, u.oneCell' = true) ∧
    ∀ (i : Nat) (v : Value) (t : List Nat), vs[i]? = some v → ls[i]? = some t → TextAt w v t := by
  have each : ∀ i, i < ls.length → ∃ v : Value, (∃ ob oo, ao = some ⟨ob, oo, none⟩ ∧ w.cell? ⟨ob, oo + i, none⟩ = some v) ∧ v.oneCell' = true ∧ TextAt w v (ls.getD i []) := fun i hi => by
    obtain ⟨ob, oo, e, ai, ci, h1, h2, h3, h4⟩ := h i hi
    exact ⟨_, ⟨ob, oo, e, h1⟩, rfl, ⟨ai, ci, rfl, h2, h4, h3⟩⟩
  obtain ⟨f, hf⟩ := Go.Deep.choose_lt each
  refine ⟨(List.range ls.length).map f, by simp, fun j u hj => ?_, fun u hu => ?_, fun i v t hv ht => ?_⟩
  · have hjl : j < ls.length := by
      have := (List.getElem?_eq_some_iff.1 hj).1
      simpa using this
    obtain ⟨⟨ob, oo, e, hc⟩, _, _⟩ := hf j hjl
    refine ⟨_, e, ?_⟩
    rw [Addr.add_lit, hc, ← hj]
    simp [hjl]
  · obtain ⟨i, hi, rfl⟩ := List.mem_map.1 hu
    exact (hf i (List.mem_range.1 hi)).2.1
  · have hil : i < ls.length := (List.getElem?_eq_some_iff.1 ht).1
    have e1 : v = f i := by
      rw [List.getElem?_map, List.getElem?_range hil] at hv
      exact (Option.some.inj hv).symm
    have e2 : ls.getD i [] = t := by simp [List.getD, ht]
    rw [e1, ← e2]
    exact (hf i hil).2.2
theorem vals_below {w w' : World} {ao : Option Addr} {vs : List Value} (h : ∀ (j : Nat) (u : Value), vs[j]? = some u → ∃ ad, ao = some ad ∧ w.cell? (ad.add j) = some u) (hB : Below w.heap.size w w') :
    ∀ (j : Nat) (u : Value), vs[j]? = some u → ∃ ad, ao = some ad ∧ w'.cell? (ad.add j) = some u := fun j u hj => by
  obtain ⟨ad, e, c⟩ := h j u hj
  exact ⟨ad, e, (hB.cell (block_lt_of_cell c)).trans c⟩
/-- A row of slices that is the call's own: its texts. -/
theorem Own.texts {w : World} {base n cap : Nat} {ao : Option Addr} {vs : List Value} {ls : List (List Nat)} (h : Own w base 25 (.slice ao n cap) vs) (hl : vs.length = ls.length)
    (hv : ∀ (i : Nat) (v : Value) (t : List Nat), vs[i]? = some v → ls[i]? = some t → TextAt w v t) : TextsAt w ao ls := fun i hi => by
  obtain ⟨ao', cap', e, _, _, _, _, hc⟩ := h.form
  cases e
  have e1 : vs[i]? = some vs[i] := List.getElem?_eq_getElem (by omega)
  have e2 : ls[i]? = some ls[i] := List.getElem?_eq_getElem hi
  obtain ⟨g, e3, h1, _⟩ := hc i _ e1
  obtain ⟨ai, ci, e4, g1, g2, g3⟩ := (hv i _ _ e1 e2).ex
  have e5 : ls.getD i [] = ls[i] := by simp [List.getD, hi]
  rw [e5]
  exact ⟨g, 0, e3, ai, ci, by rw [Nat.zero_add, h1, e4], g1, g3, g2⟩

theorem alloc_at' {w : World} {b : Nat} {x : Obj} (h : b = w.heap.size) : (w.alloc x).heap[b]? = some x := by rw [h]; exact heap_alloc_new _ _
theorem name_calls {P : Program} {f : FuncId} {args : Array Value} {w : World} {R : Ending → World → Prop} (h : ∀ w1, Hid (w1 = w) → Calls P f args w1 R) : Calls P f args w R := h w rfl
/-- In the middle of mac: the captured key, the result's block. -/
structure MacSt (w wx : World) (vk : Value) (key : List Nat) : Prop where
  cell : wx.cell? ⟨w.heap.size, 0, none⟩ = some vk
  text : TextAt wx vk (hkey key)
  res : RowB wx (w.heap.size + 1) 125 (List.replicate 32 0)
  low : Below w.heap.size w wx
theorem MacSt.below {w wx w' : World} {vk : Value} {key : List Nat} (h : MacSt w wx vk key) (hB : Below wx.heap.size wx w') : MacSt w w' vk key :=
  ⟨(hB.cell (block_lt_of_cell h.cell)).trans h.cell, h.text.below hB, h.res.other (hB.block _ h.res.lt), h.low.trans (hB.mono h.low.size)⟩
theorem MacSt.drew {w wx : World} {vk : Value} {key : List Nat} (h : MacSt w wx vk key) : MacSt w wx.drew vk key := h.below (Below.refl _ _).drew
theorem len_macs (key t : List Nat) : (u8s (macs key t)).size = 32 := size_sumOf _

set_option maxRecDepth 100000 in
set_option maxHeartbeats 4000000 in
theorem mac_any (w : World) (n : Nat) (ak : Option Addr) (ck : Nat) (key : List Nat) (hk : TextAt w (.slice ak n ck) key) (en : key.length = n) (hn : n < 1000000) (ao : Option Addr) (m cap : Nat) (ls : List (List Nat)) (hl : TextsAt w ao ls) (em : ls.length = m) (hno : ao = none → cap = 0) (hm : m < 1000000) (hF : ls.flatten.length < 100000000) :
    Calls Try.prog 92 #[.slice ak n ck, .slice ao m cap] w fun e w' => e = .returned (.agg (u8s (macs key ls.flatten))) ∧ Below w.heap.size w w' := by
  have i32 := fun t => info_sum t
  have l32 : ∀ t, (u8s (sumOf t)).size = 32 := fun t => size_sumOf t
  have ksm := hk.small
  have k64 := hkey_le key
  have hi := info_sum (padBy 92 (hkey key) ++ sumOf (padBy 54 (hkey key) ++ ls.flatten))
  obtain ⟨vs, hvl, hvs, hv1, hvt⟩ := hl.vals
  rw [em] at hvl
  replace hk := Lib.hid hk
  replace hl := Lib.hid hl
  replace en := Lib.hid en
  replace em := Lib.hid em
  replace hno := Lib.hid hno
  replace i32 := Lib.hid i32
  replace l32 := Lib.hid l32
  replace ksm := Lib.hid ksm
  replace hF := Lib.hid hF
  replace k64 := Lib.hid k64
  replace hi := Lib.hid hi
  replace hvl := Lib.hid hvl
  replace hvs := Lib.hid hvs
  replace hv1 := Lib.hid hv1
  replace hvt := Lib.hid hvt
  have d64 : (64 : Int) < (n : Int) ∨ ¬ (64 : Int) < (n : Int) := by omega
  rcases d64 with d64 | d64
  · have ek : hkey key = sumOf key := by unfold hkey; rw [if_pos (by rw [en.out]; omega)]
    replace ek := Lib.hid ek
    go_enter Try.func92, Try.ntmps92
    go_wp2_with fail
    refine (sumf_text _ _ key ((hk.out.alloc _).alloc _) (by rw [en.out]; omega)).mono ?_
    rintro e w0 ⟨rfl, B0⟩
    have hB0 : Below w.heap.size w w0 := (((Below.refl _ _).alloc (Nat.le_refl _) _).alloc (by simp) _).trans (B0.mono (by simp; omega))
    have c0 : w0.heap[w.heap.size]? = some (.cells #[.slice ak n ck] 25 (0, 0)) := (B0.block _ (by simp; omega)).trans (alloc_row (heap_alloc_new _ _))
    have r0 : RowB w0 (w.heap.size + 1) 125 (List.replicate 32 0) := RowB.other (show RowB ((w.alloc (.cells #[.slice ak n ck] 25)).alloc (.cells (u8s (List.replicate 32 0)) 125)) (w.heap.size + 1) 125 (List.replicate 32 0) from alloc_at (by simp)) (B0.block _ (by simp))
    have hs0 := hB0.size
    have ik := i32.out key
    have lk := l32.out key
    have lt0 := lt_of_block c0
    have lr0 := r0.lt
    replace hB0 := Lib.hid hB0
    replace c0 := Lib.hid c0
    replace r0 := Lib.hid r0
    replace B0 := Lib.hid B0
    go_wp2_with (first
      | (refine wpList_store_n (by rfl) 125 (.tmp 5) (.tmp 12) rfl (sumOf key) rfl rfl ik (by rw [lk]; rfl) ?_; intro w2 R2 B2
         have c2 : w2.heap[w.heap.size]? = some (.cells #[.slice ak n ck] 25 (0, 0)) := (B2.out.block _ lt0).trans c0.out
         have hc2 := cell_of_one c2
         have hf2 := free_of_one c2
         have lt2 := lt_of_block c2
         replace c2 := Lib.hid c2))
    refine name_calls ?_; intro wx hwx
    obtain ⟨vk, hvk⟩ : ∃ vk, vk = Value.slice (some ⟨w0.heap.size, 0, none⟩) 32 32 := ⟨_, rfl⟩
    have st : MacSt w wx vk key := by
      have hx := one_setCell (u := .slice (some ⟨w0.heap.size, 0, none⟩) 32 32) c2.out
      have b2 : Below w.heap.size w w2 := hB0.out.trans (B2.out.mono hs0)
      have rr : RowB (w2.setCell ⟨w.heap.size, 0, none⟩ (.slice (some ⟨w0.heap.size, 0, none⟩) 32 32)) w0.heap.size 125 (sumOf key) := R2.out.other (heap_setCell_other _ _ _ _ (show w0.heap.size ≠ w.heap.size by omega))
      rw [hwx.out, hvk]
      refine ⟨cell_of_one hx, ?_, ?_, b2.setCell (Nat.le_refl _) _⟩
      · rw [ek.out]; exact rr.text (sumOf_lt key) (length_sumOf key)
      · exact RowB.other (r0.out.other (B2.out.block _ lr0)) (heap_setCell_other _ _ _ _ (show w.heap.size + 1 ≠ w.heap.size by omega))
    clear hvk R2 B2 c2 hc2 hf2
    have tlow := st.low.size
    have pd := pad_any wx w.heap.size 54 (by decide) vk (hkey key) st.cell st.text k64.out
    rw [show ((54 : Nat) : Int) = 54 from rfl] at pd
    replace st := Lib.hid st
    replace hwx := Lib.hid hwx
    refine pd.mono ?_
    rintro e w1 ⟨rfl, P1, B1⟩
    have s1 := st.out.below B1
    have lt1 := s1.low.size
    have hvs1 := vals_below hvs.out (s1.low.alloc lt1 (.cells #[.slice (some ⟨wx.heap.size, 0, none⟩) 64 64] 25))
    replace s1 := Lib.hid s1
    replace hvs1 := Lib.hid hvs1
    replace B1 := Lib.hid B1
    replace P1 := Lib.hid P1
    clear pd
    go_wp2_with (at_builtin; refine wpList_append_x rfl (.tmp 17) (.tmp 18) 44 rfl 25 Try.underlying44 (.slice none 0 0) 24 infoTB rfl (by decide) w1.heap.size w1 (.slice (some ⟨w1.heap.size, 0, none⟩) 1 1) [.slice (some ⟨wx.heap.size, 0, none⟩) 64 64] rfl (Own.made (heap_alloc_new _ _) (Nat.le_refl _) (by simp [maxLen])) ((Below.refl _ _).alloc (Nat.le_refl _) _) (by simp) ao m cap vs rfl hvl.out hno.out hvs1.out hv1.out (by simp; omega) ?_; intro v2 w2 O2 B2 _ _)
    have s2 := s1.out.below B2.out
    have P2 : RowB w2 wx.heap.size 5 (padBy 54 (hkey key)) := P1.out.other (B2.out.block _ P1.out.lt)
    have hX : ∀ a2 n2 c2, v2 = .slice a2 n2 c2 → TextsAt w2 a2 (padBy 54 (hkey key) :: ls) := fun a2 n2 c2 e => by
      have O := O2.out
      rw [e] at O
      refine O.texts (by simp [hvl.out, em.out]) (fun i v t h1 h2 => ?_)
      match i with
      | 0 =>
        cases h1; cases h2
        exact P2.text (padBy_small (by decide) (hkey_small ksm.out)) (by simp)
      | j + 1 =>
        have h3 : vs[j]? = some v := h1
        have h4 : ls[j]? = some t := h2
        exact (hvt.out j v t h3 h4).below s2.low
    obtain ⟨a2, c2, e2, _, _, _, _, _⟩ := O2.out.form
    have hX2 := hX _ _ _ e2
    rw [show ([Value.slice (some ⟨wx.heap.size, 0, none⟩) 64 64] ++ vs).length = (padBy 54 (hkey key) :: ls).length by simp [hvl.out, em.out]] at e2
    rw [e2]
    have bo := both_any w2 a2 c2 (padBy 54 (hkey key) :: ls) hX2 (by rw [List.flatten_cons, List.length_append, length_padBy]; have := hF.out; omega) (by rw [List.length_cons, em.out]; omega)
    rw [List.flatten_cons] at bo
    have tl2 := s2.low.size
    replace s2 := Lib.hid s2
    replace P2 := Lib.hid P2
    replace hX2 := Lib.hid hX2
    replace bo := Lib.hid bo
    clear hX O2 B2 e2
    refine bo.out.mono ?_
    rintro e w3 ⟨rfl, B3⟩
    have s3 := s2.out.below B3
    have iI := i32.out (padBy 54 (hkey key) ++ ls.flatten)
    have lI := l32.out (padBy 54 (hkey key) ++ ls.flatten)
    have mac_eq : sumOf (padBy 92 (hkey key) ++ sumOf (padBy 54 (hkey key) ++ ls.flatten)) = macs key ls.flatten := rfl
    have Ism := sumOf_lt (padBy 54 (hkey key) ++ ls.flatten)
    have Ile := length_sumOf (padBy 54 (hkey key) ++ ls.flatten)
    generalize sumOf (padBy 54 (hkey key) ++ ls.flatten) = I at *
    have tl3 := s3.low.size
    replace s3 := Lib.hid s3
    replace B3 := Lib.hid B3
    replace mac_eq := Lib.hid mac_eq
    replace Ism := Lib.hid Ism
    replace Ile := Lib.hid Ile
    replace hi := Lib.hid hi
    clear bo
    go_wp2_with (refine wpList_store_n (by rfl) 125 (.tmp 7) (.tmp 20) rfl I rfl rfl iI (by rw [lI]; rfl) ?_; intro w4 R4 B4)
    have s4 := (s3.out.below B4.out).drew
    have R4' : RowB w4.drew w3.heap.size 125 I := R4.out
    have pd := pad_any w4.drew w.heap.size 92 (by decide) vk (hkey key) s4.cell s4.text k64.out
    rw [show ((92 : Nat) : Int) = 92 from rfl] at pd
    have tl4 := s4.low.size
    replace s4 := Lib.hid s4
    replace R4' := Lib.hid R4'
    replace pd := Lib.hid pd
    clear R4 B4
    refine wp_region_held_drew (S := (fun _ => True)) (by kernel_rfl) (trivial) (fun hHeld => ?_)
    refine held_take (i := 0) (v := ?_) rfl (by kernel_rfl) (by kernel_rfl) (by kernel_rfl) (fun _ _ _ h => h) (Or.inl ⟨by rfl, ?_⟩) (by assumption) ?_
    rotate_left
    · intro w hSw; (try dsimp only at hSw); go_simp; try with_reducible rfl
    try simp only [Act.put, List.setIfInBounds_toArray, List.set_cons_zero, List.set_cons_succ]
    refine held_take (i := 2) (v := ?_) rfl (by kernel_rfl) (by kernel_rfl) (by kernel_rfl) (fun _ _ _ h => h) (Or.inl ⟨by rfl, ?_⟩) (by assumption) ?_
    rotate_left
    · intro w hSw; (try dsimp only at hSw); go_simp; try with_reducible rfl
    try simp only [Act.put, List.setIfInBounds_toArray, List.set_cons_zero, List.set_cons_succ]
    refine held_ready (i := 1) rfl (by kernel_rfl) (fun K hK => ?_)
    go_simp
    refine pd.out.mono ?_
    rintro e w5 ⟨rfl, P5, B5⟩
    have s5 := s4.out.below B5
    have R5 : RowB w5 w3.heap.size 125 I := R4'.out.other (B5.block _ R4'.out.lt)
    have tl5 := s5.low.size
    replace P5 := Lib.hid P5
    replace B5 := Lib.hid B5
    replace s5 := Lib.hid s5
    replace R5 := Lib.hid R5
    refine hK.out _ _ (trivial) (fun hHeldN => ?_)
    clear hHeld hK K
    have hHeld := hHeldN
    clear hHeldN
    try simp only [Act.put, List.setIfInBounds_toArray, List.set_cons_zero, List.set_cons_succ]
    refine held_ready (i := 3) rfl (by kernel_rfl) (fun K hK => ?_)
    go_simp
    refine hK.out _ _ (trivial) (fun hHeldN => ?_)
    clear hHeld hK K
    have hHeld := hHeldN
    clear hHeldN
    try simp only [Act.put, List.setIfInBounds_toArray, List.set_cons_zero, List.set_cons_succ]
    refine held_ready (i := 4) rfl (by kernel_rfl) (fun K hK => ?_)
    go_simp
    have s5a := s5.out.below ((Below.refl _ _).alloc (Nat.le_refl _) (.cells #[.slice (some ⟨w4.heap.size, 0, none⟩) 64 64, .slice (some ⟨w3.heap.size, 0, none⟩) 32 32] 25))
    refine (both_any _ _ _ [padBy 92 (hkey key), I] (texts_of_row (vs := [.slice (some ⟨w4.heap.size, 0, none⟩) 64 64, .slice (some ⟨w3.heap.size, 0, none⟩) 32 32]) (heap_alloc_new _ _) rfl ?_) (by simp [Ile.out]) (by simp)).mono ?_
    · intro i v t hv ht
      match i with
      | 0 => cases hv; cases ht; exact (P5.out.text (padBy_small (by decide) (hkey_small ksm.out)) (by simp)).alloc _
      | 1 => cases hv; cases ht; exact (R5.out.text Ism.out Ile.out).alloc _
    rintro e w6 ⟨rfl, B6⟩
    rw [show [padBy 92 (hkey key), I].flatten = padBy 92 (hkey key) ++ I by simp, mac_eq.out]
    have s6 := s5a.below B6
    have hi2 : (Try.prog.info? 125).map (·.size) = some (u8s (macs key ls.flatten)).size := by rw [← mac_eq.out]; exact hi.out
    replace s6 := Lib.hid s6
    replace B6 := Lib.hid B6
    replace s5a := Lib.hid s5a
    replace hi2 := Lib.hid hi2
    refine hK.out _ _ (trivial) (fun hHeldN => ?_)
    clear hHeld hK K
    have hHeld := hHeldN
    clear hHeldN
    try simp only [Act.put, List.setIfInBounds_toArray, List.set_cons_zero, List.set_cons_succ]
    refine held_ready (i := 5) rfl (by kernel_rfl) (fun K hK => ?_)
    rw [if_pos (by rfl)]
    refine wp_store_s 125 (.tmp 4) (.tmp 25) rfl (w.heap.size + 1) (macs key ls.flatten) rfl rfl 125 _ s6.out.res hi2.out (by rw [len_macs]; rfl) ?_
    intro w7 R7 U7
    refine hK.out _ _ (trivial) (fun hHeldN => ?_)
    clear hHeld hK K
    have hHeld := hHeldN
    clear hHeldN
    try simp only [Act.put]
    refine wpAnyH_done (by kernel_rfl) ?_ _
    clear hHeld
    go_wp2_with fail
    refine ret_row rfl rfl (w.heap.size + 1) 125 _ (0, 0) _ rfl R7.out Try.underlying125 rfl hi2.out ⟨rfl, ?_⟩
    exact s6.out.low.trans (U7.out.below (fun k hk e => by omega) s6.out.low.size)
  · have ek : hkey key = key := by unfold hkey; rw [if_neg (by rw [en.out]; omega)]
    replace ek := Lib.hid ek
    go_enter Try.func92, Try.ntmps92
    go_wp2_with fail
    refine name_calls ?_; intro wx hwx
    obtain ⟨vk, hvk⟩ : ∃ vk, vk = Value.slice ak n ck := ⟨_, rfl⟩
    have st : MacSt w wx vk key := by
      rw [hwx.out, hvk]
      refine ⟨?_, by rw [ek.out]; exact (hk.out.alloc _).alloc _, alloc_at (by simp), ((Below.refl _ _).alloc (Nat.le_refl _) _).alloc (by simp) _⟩
      rw [cell_of_row _ _ _ _ _ _ (alloc_row (heap_alloc_new _ _))]; rfl
    clear hvk
    have tlow := st.low.size
    have pd := pad_any wx w.heap.size 54 (by decide) vk (hkey key) st.cell st.text k64.out
    rw [show ((54 : Nat) : Int) = 54 from rfl] at pd
    replace st := Lib.hid st
    replace hwx := Lib.hid hwx
    refine pd.mono ?_
    rintro e w1 ⟨rfl, P1, B1⟩
    have s1 := st.out.below B1
    have lt1 := s1.low.size
    have hvs1 := vals_below hvs.out (s1.low.alloc lt1 (.cells #[.slice (some ⟨wx.heap.size, 0, none⟩) 64 64] 25))
    replace s1 := Lib.hid s1
    replace hvs1 := Lib.hid hvs1
    replace B1 := Lib.hid B1
    replace P1 := Lib.hid P1
    clear pd
    go_wp2_with (at_builtin; refine wpList_append_x rfl (.tmp 17) (.tmp 18) 44 rfl 25 Try.underlying44 (.slice none 0 0) 24 infoTB rfl (by decide) w1.heap.size w1 (.slice (some ⟨w1.heap.size, 0, none⟩) 1 1) [.slice (some ⟨wx.heap.size, 0, none⟩) 64 64] rfl (Own.made (heap_alloc_new _ _) (Nat.le_refl _) (by simp [maxLen])) ((Below.refl _ _).alloc (Nat.le_refl _) _) (by simp) ao m cap vs rfl hvl.out hno.out hvs1.out hv1.out (by simp; omega) ?_; intro v2 w2 O2 B2 _ _)
    have s2 := s1.out.below B2.out
    have P2 : RowB w2 wx.heap.size 5 (padBy 54 (hkey key)) := P1.out.other (B2.out.block _ P1.out.lt)
    have hX : ∀ a2 n2 c2, v2 = .slice a2 n2 c2 → TextsAt w2 a2 (padBy 54 (hkey key) :: ls) := fun a2 n2 c2 e => by
      have O := O2.out
      rw [e] at O
      refine O.texts (by simp [hvl.out, em.out]) (fun i v t h1 h2 => ?_)
      match i with
      | 0 =>
        cases h1; cases h2
        exact P2.text (padBy_small (by decide) (hkey_small ksm.out)) (by simp)
      | j + 1 =>
        have h3 : vs[j]? = some v := h1
        have h4 : ls[j]? = some t := h2
        exact (hvt.out j v t h3 h4).below s2.low
    obtain ⟨a2, c2, e2, _, _, _, _, _⟩ := O2.out.form
    have hX2 := hX _ _ _ e2
    rw [show ([Value.slice (some ⟨wx.heap.size, 0, none⟩) 64 64] ++ vs).length = (padBy 54 (hkey key) :: ls).length by simp [hvl.out, em.out]] at e2
    rw [e2]
    have bo := both_any w2 a2 c2 (padBy 54 (hkey key) :: ls) hX2 (by rw [List.flatten_cons, List.length_append, length_padBy]; have := hF.out; omega) (by rw [List.length_cons, em.out]; omega)
    rw [List.flatten_cons] at bo
    have tl2 := s2.low.size
    replace s2 := Lib.hid s2
    replace P2 := Lib.hid P2
    replace hX2 := Lib.hid hX2
    replace bo := Lib.hid bo
    clear hX O2 B2 e2
    refine bo.out.mono ?_
    rintro e w3 ⟨rfl, B3⟩
    have s3 := s2.out.below B3
    have iI := i32.out (padBy 54 (hkey key) ++ ls.flatten)
    have lI := l32.out (padBy 54 (hkey key) ++ ls.flatten)
    have mac_eq : sumOf (padBy 92 (hkey key) ++ sumOf (padBy 54 (hkey key) ++ ls.flatten)) = macs key ls.flatten := rfl
    have Ism := sumOf_lt (padBy 54 (hkey key) ++ ls.flatten)
    have Ile := length_sumOf (padBy 54 (hkey key) ++ ls.flatten)
    generalize sumOf (padBy 54 (hkey key) ++ ls.flatten) = I at *
    have tl3 := s3.low.size
    replace s3 := Lib.hid s3
    replace B3 := Lib.hid B3
    replace mac_eq := Lib.hid mac_eq
    replace Ism := Lib.hid Ism
    replace Ile := Lib.hid Ile
    replace hi := Lib.hid hi
    clear bo
    go_wp2_with (refine wpList_store_n (by rfl) 125 (.tmp 7) (.tmp 20) rfl I rfl rfl iI (by rw [lI]; rfl) ?_; intro w4 R4 B4)
    have s4 := (s3.out.below B4.out).drew
    have R4' : RowB w4.drew w3.heap.size 125 I := R4.out
    have pd := pad_any w4.drew w.heap.size 92 (by decide) vk (hkey key) s4.cell s4.text k64.out
    rw [show ((92 : Nat) : Int) = 92 from rfl] at pd
    have tl4 := s4.low.size
    replace s4 := Lib.hid s4
    replace R4' := Lib.hid R4'
    replace pd := Lib.hid pd
    clear R4 B4
    refine wp_region_held_drew (S := (fun _ => True)) (by kernel_rfl) (trivial) (fun hHeld => ?_)
    refine held_take (i := 0) (v := ?_) rfl (by kernel_rfl) (by kernel_rfl) (by kernel_rfl) (fun _ _ _ h => h) (Or.inl ⟨by rfl, ?_⟩) (by assumption) ?_
    rotate_left
    · intro w hSw; (try dsimp only at hSw); go_simp; try with_reducible rfl
    try simp only [Act.put, List.setIfInBounds_toArray, List.set_cons_zero, List.set_cons_succ]
    refine held_take (i := 2) (v := ?_) rfl (by kernel_rfl) (by kernel_rfl) (by kernel_rfl) (fun _ _ _ h => h) (Or.inl ⟨by rfl, ?_⟩) (by assumption) ?_
    rotate_left
    · intro w hSw; (try dsimp only at hSw); go_simp; try with_reducible rfl
    try simp only [Act.put, List.setIfInBounds_toArray, List.set_cons_zero, List.set_cons_succ]
    refine held_ready (i := 1) rfl (by kernel_rfl) (fun K hK => ?_)
    go_simp
    refine pd.out.mono ?_
    rintro e w5 ⟨rfl, P5, B5⟩
    have s5 := s4.out.below B5
    have R5 : RowB w5 w3.heap.size 125 I := R4'.out.other (B5.block _ R4'.out.lt)
    have tl5 := s5.low.size
    replace P5 := Lib.hid P5
    replace B5 := Lib.hid B5
    replace s5 := Lib.hid s5
    replace R5 := Lib.hid R5
    refine hK.out _ _ (trivial) (fun hHeldN => ?_)
    clear hHeld hK K
    have hHeld := hHeldN
    clear hHeldN
    try simp only [Act.put, List.setIfInBounds_toArray, List.set_cons_zero, List.set_cons_succ]
    refine held_ready (i := 3) rfl (by kernel_rfl) (fun K hK => ?_)
    go_simp
    refine hK.out _ _ (trivial) (fun hHeldN => ?_)
    clear hHeld hK K
    have hHeld := hHeldN
    clear hHeldN
    try simp only [Act.put, List.setIfInBounds_toArray, List.set_cons_zero, List.set_cons_succ]
    refine held_ready (i := 4) rfl (by kernel_rfl) (fun K hK => ?_)
    go_simp
    have s5a := s5.out.below ((Below.refl _ _).alloc (Nat.le_refl _) (.cells #[.slice (some ⟨w4.heap.size, 0, none⟩) 64 64, .slice (some ⟨w3.heap.size, 0, none⟩) 32 32] 25))
    refine (both_any _ _ _ [padBy 92 (hkey key), I] (texts_of_row (vs := [.slice (some ⟨w4.heap.size, 0, none⟩) 64 64, .slice (some ⟨w3.heap.size, 0, none⟩) 32 32]) (heap_alloc_new _ _) rfl ?_) (by simp [Ile.out]) (by simp)).mono ?_
    · intro i v t hv ht
      match i with
      | 0 => cases hv; cases ht; exact (P5.out.text (padBy_small (by decide) (hkey_small ksm.out)) (by simp)).alloc _
      | 1 => cases hv; cases ht; exact (R5.out.text Ism.out Ile.out).alloc _
    rintro e w6 ⟨rfl, B6⟩
    rw [show [padBy 92 (hkey key), I].flatten = padBy 92 (hkey key) ++ I by simp, mac_eq.out]
    have s6 := s5a.below B6
    have hi2 : (Try.prog.info? 125).map (·.size) = some (u8s (macs key ls.flatten)).size := by rw [← mac_eq.out]; exact hi.out
    replace s6 := Lib.hid s6
    replace B6 := Lib.hid B6
    replace s5a := Lib.hid s5a
    replace hi2 := Lib.hid hi2
    refine hK.out _ _ (trivial) (fun hHeldN => ?_)
    clear hHeld hK K
    have hHeld := hHeldN
    clear hHeldN
    try simp only [Act.put, List.setIfInBounds_toArray, List.set_cons_zero, List.set_cons_succ]
    refine held_ready (i := 5) rfl (by kernel_rfl) (fun K hK => ?_)
    rw [if_pos (by rfl)]
    refine wp_store_s 125 (.tmp 4) (.tmp 25) rfl (w.heap.size + 1) (macs key ls.flatten) rfl rfl 125 _ s6.out.res hi2.out (by rw [len_macs]; rfl) ?_
    intro w7 R7 U7
    refine hK.out _ _ (trivial) (fun hHeldN => ?_)
    clear hHeld hK K
    have hHeld := hHeldN
    clear hHeldN
    try simp only [Act.put]
    refine wpAnyH_done (by kernel_rfl) ?_ _
    clear hHeld
    go_wp2_with fail
    refine ret_row rfl rfl (w.heap.size + 1) 125 _ (0, 0) _ rfl R7.out Try.underlying125 rfl hi2.out ⟨rfl, ?_⟩
    exact s6.out.low.trans (U7.out.below (fun k hk e => by omega) s6.out.low.size)

set_option maxRecDepth 100000 in
theorem mac_text (w : World) (vk vt : Value) (key t : List Nat) (hk : TextAt w vk key) (ht : TextAt w vt t) (h1 : key.length < 1000000) (h2 : t.length < 10000000) :
    Calls Try.prog 87 #[vk, vt] w fun e w' => e = .returned (.agg (u8s (macs key t))) ∧ Below w.heap.size w w' := by
  obtain ⟨ak, ck, rfl, p1, p2, p3⟩ := hk.ex
  obtain ⟨at_, ct, rfl, q1, q2, q3⟩ := ht.ex
  obtain ⟨n, hn⟩ : ∃ n, n = key.length := ⟨_, rfl⟩
  obtain ⟨m, hm⟩ : ∃ m, m = t.length := ⟨_, rfl⟩
  rw [← hn] at hk h1 p1 p3 ⊢
  rw [← hm] at ht h2 q1 q3 ⊢
  have hi : (Try.prog.info? 125).map (·.size) = some (u8s (macs key t)).size := info_sum _
  replace hk := Lib.hid hk
  replace ht := Lib.hid ht
  replace hn := Lib.hid hn
  replace hm := Lib.hid hm
  replace p2 := Lib.hid p2
  replace p3 := Lib.hid p3
  replace q2 := Lib.hid q2
  replace q3 := Lib.hid q3
  replace hi := Lib.hid hi
  go_enter Try.func87, Try.ntmps87
  go_wp2_with fail
  have mc := mac_any ((w.alloc (.cells (u8s (List.replicate 32 0)) 125)).alloc (.cells #[.slice at_ m ct] 25)) n ak ck key ((hk.out.alloc _).alloc _) hn.out.symm h1 (some ⟨w.heap.size + 1, 0, none⟩) 1 1 [t]
    (texts_of_row (vs := [.slice at_ m ct]) (alloc_at' (by simp)) rfl (fun i v u hv hu => by
      match i with
      | 0 => cases hv; cases hu; exact (ht.out.alloc _).alloc _)) rfl (fun e => by simp at e) (by omega) (by simp; rw [← hm.out]; omega)
  rw [show [t].flatten = t by simp] at mc
  refine mc.mono ?_
  rintro e w2 ⟨rfl, B2⟩
  have R2 : RowB w2 w.heap.size 125 (List.replicate 32 0) := by
    refine RowB.other (show RowB ((w.alloc (.cells (u8s (List.replicate 32 0)) 125)).alloc (.cells #[.slice at_ m ct] 25)) w.heap.size 125 (List.replicate 32 0) from alloc_row (heap_alloc_new _ _)) (B2.block _ (by simp; omega))
  have h3 : Below w.heap.size w w2 := (((Below.refl _ _).alloc (Nat.le_refl _) _).alloc (by simp) _).trans (B2.mono (by simp; omega))
  replace R2 := Lib.hid R2
  replace h3 := Lib.hid h3
  clear mc B2
  go_wp2_with (refine wpList_store_s (by rfl) 125 (.tmp 4) (.tmp 8) rfl w.heap.size (macs key t) rfl rfl 125 _ R2.out hi.out (by rw [len_macs]; rfl) ?_; intro w3 R3 U3)
  refine ret_row rfl rfl w.heap.size 125 _ (0, 0) _ rfl R3.out Try.underlying125 rfl hi.out ⟨rfl, ?_⟩
  exact h3.out.trans (U3.out.below (fun k hk e => by omega) h3.out.size)

theorem info_key (t : List Nat) (h : t.length = 32) : (Try.prog.info? 23).map (·.size) = some (u8s t).size := by
  have e : (Try.prog.info? 23).map (·.size) = some 32 := by kernel_rfl
  rw [e]; simp [u8s, h]
set_option maxRecDepth 100000 in
theorem extract_text (w : World) (vk vt : Value) (key t : List Nat) (hk : TextAt w vk key) (ht : TextAt w vt t) (h1 : key.length < 1000000) (h2 : t.length < 10000000) :
    Calls Try.prog 67 #[vk, vt] w fun e w' => e = .returned (.agg (u8s (macs key t))) ∧ Below w.heap.size w w' := by
  have mc := Lib.hid (mac_text (w.alloc (.cells (u8s (List.replicate 32 0)) 23)) vk vt key t (hk.alloc _) (ht.alloc _) h1 h2)
  have hi := info_key (macs key t) (sumOf_length _)
  replace hi := Lib.hid hi
  go_enter Try.func67, Try.ntmps67
  go_wp2_with fail
  refine mc.out.mono ?_
  rintro e w2 ⟨rfl, B2⟩
  have R2 : RowB w2 w.heap.size 23 (List.replicate 32 0) :=
    RowB.other (show RowB (w.alloc (.cells (u8s (List.replicate 32 0)) 23)) w.heap.size 23 (List.replicate 32 0) from heap_alloc_new _ _) (B2.block _ (by simp))
  have h3 : Below w.heap.size w w2 := ((Below.refl _ _).alloc (Nat.le_refl _) _).trans (B2.mono (by simp))
  replace R2 := Lib.hid R2
  replace h3 := Lib.hid h3
  clear mc B2
  go_wp2_with (refine wpList_store_s (by rfl) 23 (.tmp 4) (.tmp 7) rfl w.heap.size (macs key t) rfl rfl 23 _ R2.out hi.out (by rw [len_macs]; rfl) ?_; intro w3 R3 U3)
  refine ret_row rfl rfl w.heap.size 23 _ (0, 0) _ rfl R3.out Try.underlying23 rfl hi.out ⟨rfl, ?_⟩
  exact h3.out.trans (U3.out.below (fun k hk e => by omega) h3.out.size)

end Go.Proofs.Ytecmagenlbnchaa
