/-
  Layer 3's law HmacMarks. Condition: none but the texts' reading.
-/
import Derived.Test.YtjbmdeppoobccaaLaw03
import Derived.Test.YtjbmdeppoobccaaCut
namespace Go.Proofs.Ytjbmdeppoobccaa
open Go.RowKit

/-- What the law's last line reads. -/
structure MarkSt (x y : Nat) (vw vm : Value) (A m : List Nat) (w : World) : Prop where
  one : RowB w x 27 A
  two : RowB w y 49 A
  want : TextAt w vw A
  text : TextAt w vm m
theorem MarkSt.below {x y : Nat} {vw vm : Value} {A m : List Nat} {w w' : World} (h : MarkSt x y vw vm A m w) (hB : Below w.heap.size w w') : MarkSt x y vw vm A m w' :=
  ⟨h.one.other (hB.block _ h.one.lt), h.two.other (hB.block _ h.two.lt), h.want.below hB, h.text.below hB⟩
set_option maxRecDepth 100000 in
set_option maxHeartbeats 4000000 in
theorem marks_any (w : World) (key b m : List Nat) (nk nb nm : Nat) (ak ab am : Option Addr) (ck cb cm : Nat) (hk : TextAt w (.slice ak nk ck) key) (hb : TextAt w (.slice ab nb cb) b) (hm : TextAt w (.slice am nm cm) m) (ek : key.length = nk) (eb : b.length = nb) (em : m.length = nm)
    (h1 : nk < 9223372036854775808) (h2 : nb < 9223372036854775808) (h3 : nm < 9223372036854775808) :
    Calls Try.prog 10 #[.slice ak nk ck, .slice ab nb cb, .slice am nm cm] w fun e w' => e = .returned (.bool true) ∧ Below w.heap.size w w' := by
  replace hk := Lib.hid hk
  replace hb := Lib.hid hb
  replace hm := Lib.hid hm
  replace ek := Lib.hid ek
  replace eb := Lib.hid eb
  replace em := Lib.hid em
  have d1 : (200 : Int) < (nk : Int) ∨ ¬ (200 : Int) < (nk : Int) := by omega
  have d2 : (300 : Int) < (nb : Int) ∨ ¬ (300 : Int) < (nb : Int) := by omega
  have d3 : (100 : Int) < (nm : Int) ∨ ¬ (100 : Int) < (nm : Int) := by omega
  rcases d1 with d1 | d1
  ·
    go_enter Try.func10, Try.ntmps10
    go_wp2_with fail
    refine (alive03 _).mono ?_
    rintro e w1 ⟨rfl, B1⟩
    go_wp2_with fail
    go_ret
    exact ⟨rfl, B1⟩
  rcases d2 with d2 | d2
  ·
    go_enter Try.func10, Try.ntmps10
    go_wp2_with fail
    refine (alive03 _).mono ?_
    rintro e w1 ⟨rfl, B1⟩
    go_wp2_with fail
    go_ret
    exact ⟨rfl, B1⟩
  rcases d3 with d3 | d3
  ·
    go_enter Try.func10, Try.ntmps10
    go_wp2_with fail
    refine (alive03 _).mono ?_
    rintro e w1 ⟨rfl, B1⟩
    go_wp2_with fail
    go_ret
    exact ⟨rfl, B1⟩
  have lk : key.length < 900000 := by rw [ek.out]; omega
  have lb : b.length < 900000 := by rw [eb.out]; omega
  have mc := mac_text w (.slice ak nk ck) (.slice ab nb cb) key b hk.out hb.out (by omega) (by omega)
  have xc := Lib.hid (fun x p q => extract_text x (.slice ak nk ck) (.slice ab nb cb) key b p q (by omega) (by omega))
  have rc := Lib.hid (fun x p q => ref_mac x (.slice ak nk ck) (.slice ab nb cb) key b p q lk lb)
  have rg := Lib.hid (fun x vm m p q r s => right_any x (.slice ak nk ck) (.slice ab nb cb) vm key b m p q r (by omega) (by omega) s)
  have iA := info_sum (padBy 92 (hkey key) ++ sumOf (padBy 54 (hkey key) ++ b))
  rw [show sumOf (padBy 92 (hkey key) ++ sumOf (padBy 54 (hkey key) ++ b)) = macs key b from rfl] at iA
  have lA := macs_length key b
  have sA := macs_small key b
  generalize macs key b = A at *
  have iK := info_key A lA
  have lA' : (u8s A).size = 32 := by simp [u8s, lA]
  obtain ⟨B, hB⟩ : ∃ B, B = (A == m) := ⟨_, rfl⟩
  have hs1 : ((strOf m).toList == (strOf A).toList) = B := by rw [hB, str_lst hm.out.small sA]; exact Bool.beq_comm
  have hs2 : decide (strOf m = strOf A) = B := by rw [hB, str_dec hm.out.small sA]; exact Bool.beq_comm
  replace lA := Lib.hid lA
  replace sA := Lib.hid sA
  replace mc := Lib.hid mc
  replace hB := Lib.hid hB
  go_enter Try.func10, Try.ntmps10
  go_wp2_with fail
  refine mc.out.mono ?_
  rintro e w1 ⟨rfl, B1⟩
  have s1 := B1.size
  replace B1 := Lib.hid B1
  clear mc
  go_wp2_with fail
  refine (xc.out w1 (hk.out.below B1.out) (hb.out.below B1.out)).mono ?_
  rintro e w2 ⟨rfl, B2⟩
  have b2 : Below w.heap.size w w2 := B1.out.trans (B2.mono s1)
  have s2 := b2.size
  replace b2 := Lib.hid b2
  replace B2 := Lib.hid B2
  clear xc
  go_wp2_with (first
    | (refine wpList_store_s (by rfl) 27 (.tmp 7) (.tmp 26) rfl w2.heap.size A rfl rfl 27 _ (alloc_row (heap_alloc_new _ _)) iA (by rw [lA']; rfl) ?_; intro w3 R3 U3
       have hx3 := U3.out.at (alloc_at (b := w2.heap.size + 1) (by simp)) (by omega)
       replace hx3 := Lib.hid hx3)
    | (refine wpList_store_s (by rfl) 49 (.tmp 8) (.tmp 29) rfl (w2.heap.size + 1) A rfl rfl 49 _ hx3.out iK (by rw [lA']; rfl) ?_; intro w4 R4 U4))
  have R4a : RowB w4 w2.heap.size 27 A := U4.out.at R3.out (by omega)
  have b4 : Below w.heap.size w w4 := (((b2.out.alloc s2 _).alloc (by simp; omega) _).trans (U3.out.below (fun k hk e => by omega) (by simp; omega))).trans (U4.out.below (fun k hk e => by omega) (by have := U3.out.size; simp at this; omega))
  have s4 := b4.size
  have lx4 := R4a.lt
  have ly4 := R4.out.lt
  replace R4a := Lib.hid R4a
  replace b4 := Lib.hid b4
  clear hx3 R3 U3 U4
  refine (rc.out w4 (hk.out.below b4.out) (hb.out.below b4.out)).mono ?_
  rintro e w5 ⟨v5, rfl, O5, B5⟩
  have b5 : Below w.heap.size w w5.drew := (b4.out.trans (B5.mono s4)).drew
  have st5 : MarkSt w2.heap.size (w2.heap.size + 1) v5 (.slice am nm cm) A m w5.drew :=
    ⟨R4a.out.other (B5.block _ lx4), R4.out.other (B5.block _ ly4), (O5.text sA.out).drew, hm.out.below b5⟩
  have s5 := b5.size
  have T1 : ∀ w', MarkSt w2.heap.size (w2.heap.size + 1) v5 (.slice am nm cm) A m w' → TextAt w' (.slice (some ⟨w2.heap.size, 0, none⟩) 32 32) A := fun w' h => h.one.text sA.out lA.out
  have T2 : ∀ w', MarkSt w2.heap.size (w2.heap.size + 1) v5 (.slice am nm cm) A m w' → TextAt w' (.slice (some ⟨w2.heap.size + 1, 0, none⟩) 32 32) A := fun w' h => h.two.text sA.out lA.out
  have T3 : ∀ w', MarkSt w2.heap.size (w2.heap.size + 1) v5 (.slice am nm cm) A m w' → TextAt w' v5 A := fun w' h => h.want
  have T4 : ∀ w', MarkSt w2.heap.size (w2.heap.size + 1) v5 (.slice am nm cm) A m w' → TextAt w' (.slice am nm cm) m := fun w' h => h.text
  replace b5 := Lib.hid b5
  replace st5 := Lib.hid st5
  replace O5 := Lib.hid O5
  replace B5 := Lib.hid B5
  replace T1 := Lib.hid T1
  replace T2 := Lib.hid T2
  replace T3 := Lib.hid T3
  replace T4 := Lib.hid T4
  clear rc R4 R4a
  go_wp2_with fail
  refine wp_region_held_drew (S := (fun w' => MarkSt w2.heap.size (w2.heap.size + 1) v5 (.slice am nm cm) A m w')) (by kernel_rfl) (st5.out) (fun hHeld => ?_)
  refine held_ready (i := 0) rfl (by kernel_rfl) (fun K hK => ?_)
  go_simp
  refine (alive03 _).mono ?_
  rintro e w6 ⟨rfl, B6⟩
  have st6 := st5.out.below B6
  have b6 : Below w.heap.size w w6 := b5.out.trans (B6.mono s5)
  have s6 := b6.size
  have r6 := rg.out w6 (.slice am nm cm) m (hk.out.below b6) (hb.out.below b6) st6.text (by rw [em.out]; omega)
  rw [← hB.out] at r6
  replace st6 := Lib.hid st6
  replace b6 := Lib.hid b6
  replace B6 := Lib.hid B6
  replace r6 := Lib.hid r6
  refine hK.out _ _ (st6.out) (fun hHeldN => ?_)
  clear hHeld hK K
  have hHeld := hHeldN
  clear hHeldN
  try simp only [Act.put, List.setIfInBounds_toArray, List.set_cons_zero, List.set_cons_succ]
  refine held_take (i := 1) (v := ?_) rfl (by kernel_rfl) (by kernel_rfl) (by kernel_rfl) (fun _ _ _ h => h) (Or.inl ⟨by rfl, ?_⟩) (by assumption) ?_
  rotate_left
  · intro w hSw; (try dsimp only at hSw); go_simp; try with_reducible rfl
  try simp only [Act.put, List.setIfInBounds_toArray, List.set_cons_zero, List.set_cons_succ]
  refine held_take (i := 2) (v := ?_) rfl (by kernel_rfl) (by kernel_rfl) (by kernel_rfl) (fun _ _ _ h => h) (Or.inl ⟨by rfl, ?_⟩) (by assumption) ?_
  rotate_left
  · intro w hSw; (try dsimp only at hSw); go_simp; try with_reducible rfl
  try simp only [Act.put, List.setIfInBounds_toArray, List.set_cons_zero, List.set_cons_succ]
  refine held_take (i := 3) (v := _) rfl (by kernel_rfl) (by kernel_rfl) (by kernel_rfl) (fun _ _ _ h => h) (yieldsIf_str (by rfl) rfl rfl (v := .slice (some ⟨w2.heap.size, 0, none⟩) 32 32) T1.out) (by assumption) ?_
  try simp only [Act.put, List.setIfInBounds_toArray, List.set_cons_zero, List.set_cons_succ]
  refine held_take (i := 4) (v := ?_) rfl (by kernel_rfl) (by kernel_rfl) (by kernel_rfl) (fun _ _ _ h => h) (Or.inl ⟨by rfl, ?_⟩) (by assumption) ?_
  rotate_left
  · intro w hSw; (try dsimp only at hSw); go_simp; try with_reducible rfl
  try simp only [Act.put, List.setIfInBounds_toArray, List.set_cons_zero, List.set_cons_succ]
  refine held_take (i := 5) (v := _) rfl (by kernel_rfl) (by kernel_rfl) (by kernel_rfl) (fun _ _ _ h => h) (yieldsIf_str (by rfl) rfl rfl (v := v5) T3.out) (by assumption) ?_
  try simp only [Act.put, List.setIfInBounds_toArray, List.set_cons_zero, List.set_cons_succ]
  refine held_take (i := 6) (v := ?_) rfl (by kernel_rfl) (by kernel_rfl) (by kernel_rfl) (fun _ _ _ h => h) (Or.inl ⟨by rfl, ?_⟩) (by assumption) ?_
  rotate_left
  · intro w hSw; (try dsimp only at hSw); go_simp; try with_reducible rfl
  try simp only [Act.put, List.setIfInBounds_toArray, List.set_cons_zero, List.set_cons_succ]
  refine held_take (i := 7) (v := ?_) rfl (by kernel_rfl) (by kernel_rfl) (by kernel_rfl) (fun _ _ _ h => h) (Or.inl ⟨by rfl, ?_⟩) (by assumption) ?_
  rotate_left
  · intro w hSw; (try dsimp only at hSw); go_simp; try with_reducible rfl
  try simp only [Act.put, List.setIfInBounds_toArray, List.set_cons_zero, List.set_cons_succ]
  refine held_take (i := 8) (v := ?_) rfl (by kernel_rfl) (by kernel_rfl) (by kernel_rfl) (fun _ _ _ h => h) (Or.inl ⟨by rfl, ?_⟩) (by assumption) ?_
  rotate_left
  · intro w hSw; (try dsimp only at hSw); go_simp; try with_reducible rfl
  try simp only [Act.put, List.setIfInBounds_toArray, List.set_cons_zero, List.set_cons_succ]
  refine held_take (i := 9) (v := ?_) rfl (by kernel_rfl) (by kernel_rfl) (by kernel_rfl) (fun _ _ _ h => h) (Or.inl ⟨by rfl, ?_⟩) (by assumption) ?_
  rotate_left
  · intro w hSw; (try dsimp only at hSw); go_simp; try with_reducible rfl
  try simp only [Act.put, List.setIfInBounds_toArray, List.set_cons_zero, List.set_cons_succ]
  refine held_take (i := 10) (v := _) rfl (by kernel_rfl) (by kernel_rfl) (by kernel_rfl) (fun _ _ _ h => h) (yieldsIf_str (by rfl) rfl rfl (v := .slice (some ⟨w2.heap.size + 1, 0, none⟩) 32 32) T2.out) (by assumption) ?_
  try simp only [Act.put, List.setIfInBounds_toArray, List.set_cons_zero, List.set_cons_succ]
  refine held_take (i := 11) (v := ?_) rfl (by kernel_rfl) (by kernel_rfl) (by kernel_rfl) (fun _ _ _ h => h) (Or.inl ⟨by rfl, ?_⟩) (by assumption) ?_
  rotate_left
  · intro w hSw; (try dsimp only at hSw); go_simp; try with_reducible rfl
  try simp only [Act.put, List.setIfInBounds_toArray, List.set_cons_zero, List.set_cons_succ]
  refine held_take (i := 12) (v := _) rfl (by kernel_rfl) (by kernel_rfl) (by kernel_rfl) (fun _ _ _ h => h) (yieldsIf_str (by rfl) rfl rfl (v := v5) T3.out) (by assumption) ?_
  try simp only [Act.put, List.setIfInBounds_toArray, List.set_cons_zero, List.set_cons_succ]
  refine held_take (i := 13) (v := ?_) rfl (by kernel_rfl) (by kernel_rfl) (by kernel_rfl) (fun _ _ _ h => h) (Or.inl ⟨by rfl, ?_⟩) (by assumption) ?_
  rotate_left
  · intro w hSw; (try dsimp only at hSw); go_simp; try with_reducible rfl
  try simp only [Act.put, List.setIfInBounds_toArray, List.set_cons_zero, List.set_cons_succ]
  refine held_take (i := 14) (v := ?_) rfl (by kernel_rfl) (by kernel_rfl) (by kernel_rfl) (fun _ _ _ h => h) (Or.inl ⟨by rfl, ?_⟩) (by assumption) ?_
  rotate_left
  · intro w hSw; (try dsimp only at hSw); go_simp; try with_reducible rfl
  try simp only [Act.put, List.setIfInBounds_toArray, List.set_cons_zero, List.set_cons_succ]
  refine held_take (i := 15) (v := ?_) rfl (by kernel_rfl) (by kernel_rfl) (by kernel_rfl) (fun _ _ _ h => h) (Or.inl ⟨by rfl, ?_⟩) (by assumption) ?_
  rotate_left
  · intro w hSw; (try dsimp only at hSw); go_simp; try with_reducible rfl
  try simp only [Act.put, List.setIfInBounds_toArray, List.set_cons_zero, List.set_cons_succ]
  refine held_take (i := 16) (v := ?_) rfl (by kernel_rfl) (by kernel_rfl) (by kernel_rfl) (fun _ _ _ h => h) (Or.inl ⟨by rfl, ?_⟩) (by assumption) ?_
  rotate_left
  · intro w hSw; (try dsimp only at hSw); go_simp; try with_reducible rfl
  try simp only [Act.put, List.setIfInBounds_toArray, List.set_cons_zero, List.set_cons_succ]
  refine held_take (i := 17) (v := ?_) rfl (by kernel_rfl) (by kernel_rfl) (by kernel_rfl) (fun _ _ _ h => h) (Or.inl ⟨by rfl, ?_⟩) (by assumption) ?_
  rotate_left
  · intro w hSw; (try dsimp only at hSw); go_simp; try with_reducible rfl
  try simp only [Act.put, List.setIfInBounds_toArray, List.set_cons_zero, List.set_cons_succ]
  refine held_take (i := 18) (v := ?_) rfl (by kernel_rfl) (by kernel_rfl) (by kernel_rfl) (fun _ _ _ h => h) (Or.inl ⟨by rfl, ?_⟩) (by assumption) ?_
  rotate_left
  · intro w hSw; (try dsimp only at hSw); go_simp; try with_reducible rfl
  try simp only [Act.put, List.setIfInBounds_toArray, List.set_cons_zero, List.set_cons_succ]
  refine held_take (i := 20) (v := ?_) rfl (by kernel_rfl) (by kernel_rfl) (by kernel_rfl) (fun _ _ _ h => h) (Or.inl ⟨by rfl, ?_⟩) (by assumption) ?_
  rotate_left
  · intro w hSw; (try dsimp only at hSw); go_simp; try with_reducible rfl
  try simp only [Act.put, List.setIfInBounds_toArray, List.set_cons_zero, List.set_cons_succ]
  refine held_take (i := 21) (v := _) rfl (by kernel_rfl) (by kernel_rfl) (by kernel_rfl) (fun _ _ _ h => h) (yieldsIf_str (by rfl) rfl rfl (v := .slice am nm cm) T4.out) (by assumption) ?_
  try simp only [Act.put, List.setIfInBounds_toArray, List.set_cons_zero, List.set_cons_succ]
  refine held_take (i := 22) (v := ?_) rfl (by kernel_rfl) (by kernel_rfl) (by kernel_rfl) (fun _ _ _ h => h) (Or.inl ⟨by rfl, ?_⟩) (by assumption) ?_
  rotate_left
  · intro w hSw; (try dsimp only at hSw); go_simp; try with_reducible rfl
  try simp only [Act.put, List.setIfInBounds_toArray, List.set_cons_zero, List.set_cons_succ]
  refine held_take (i := 23) (v := _) rfl (by kernel_rfl) (by kernel_rfl) (by kernel_rfl) (fun _ _ _ h => h) (yieldsIf_str (by rfl) rfl rfl (v := v5) T3.out) (by assumption) ?_
  try simp only [Act.put, List.setIfInBounds_toArray, List.set_cons_zero, List.set_cons_succ]
  refine held_take (i := 24) (v := ?_) rfl (by kernel_rfl) (by kernel_rfl) (by kernel_rfl) (fun _ _ _ h => h) (Or.inl ⟨by rfl, ?_⟩) (by assumption) ?_
  rotate_left
  · intro w hSw; (try dsimp only at hSw); go_simp; try with_reducible rfl
  try simp only [Act.put, List.setIfInBounds_toArray, List.set_cons_zero, List.set_cons_succ]
  refine held_ready (i := 19) rfl (by kernel_rfl) (fun K hK => ?_)
  go_simp
  refine r6.out.mono ?_
  rintro e w7 ⟨rfl, B7⟩
  have st7 := st6.out.below B7
  have b7 : Below w.heap.size w w7 := b6.out.trans (B7.mono s6)
  have s7 := b7.size
  have r7 := rg.out w7 v5 A (hk.out.below b7) (hb.out.below b7) st7.want (by rw [lA.out]; decide)
  rw [beq_self_eq_true] at r7
  replace st7 := Lib.hid st7
  replace b7 := Lib.hid b7
  replace B7 := Lib.hid B7
  replace r7 := Lib.hid r7
  refine hK.out _ _ (st7.out) (fun hHeldN => ?_)
  clear hHeld hK K
  have hHeld := hHeldN
  clear hHeldN
  try simp only [Act.put, List.setIfInBounds_toArray, List.set_cons_zero, List.set_cons_succ]
  refine held_take (i := 25) (v := ?_) rfl (by kernel_rfl) (by kernel_rfl) (by kernel_rfl) (fun _ _ _ h => h) (Or.inl ⟨by rfl, ?_⟩) (by assumption) ?_
  rotate_left
  · intro w hSw; (try dsimp only at hSw); go_simp; try with_reducible rfl
  try simp only [Act.put, List.setIfInBounds_toArray, List.set_cons_zero, List.set_cons_succ]
  refine held_take (i := 26) (v := ?_) rfl (by kernel_rfl) (by kernel_rfl) (by kernel_rfl) (fun _ _ _ h => h) (Or.inl ⟨by rfl, ?_⟩) (by assumption) ?_
  rotate_left
  · intro w hSw; (try dsimp only at hSw); go_simp; try with_reducible rfl
  try simp only [Act.put, List.setIfInBounds_toArray, List.set_cons_zero, List.set_cons_succ]
  refine held_take (i := 27) (v := ?_) rfl (by kernel_rfl) (by kernel_rfl) (by kernel_rfl) (fun _ _ _ h => h) (Or.inl ⟨by rfl, ?_⟩) (by assumption) ?_
  rotate_left
  · intro w hSw; (try dsimp only at hSw); go_simp; try with_reducible rfl
  try simp only [Act.put, List.setIfInBounds_toArray, List.set_cons_zero, List.set_cons_succ]
  refine held_take (i := 28) (v := ?_) rfl (by kernel_rfl) (by kernel_rfl) (by kernel_rfl) (fun _ _ _ h => h) (Or.inl ⟨by rfl, ?_⟩) (by assumption) ?_
  rotate_left
  · intro w hSw; (try dsimp only at hSw); go_simp; try with_reducible rfl
  try simp only [Act.put, List.setIfInBounds_toArray, List.set_cons_zero, List.set_cons_succ]
  refine held_take (i := 29) (v := ?_) rfl (by kernel_rfl) (by kernel_rfl) (by kernel_rfl) (fun _ _ _ h => h) (Or.inl ⟨by rfl, ?_⟩) (by assumption) ?_
  rotate_left
  · intro w hSw; (try dsimp only at hSw); go_simp; try with_reducible rfl
  try simp only [Act.put, List.setIfInBounds_toArray, List.set_cons_zero, List.set_cons_succ]
  refine held_take (i := 30) (v := ?_) rfl (by kernel_rfl) (by kernel_rfl) (by kernel_rfl) (fun _ _ _ h => h) (Or.inl ⟨by rfl, ?_⟩) (by assumption) ?_
  rotate_left
  · intro w hSw; (try dsimp only at hSw); go_simp; try with_reducible rfl
  try simp only [Act.put, List.setIfInBounds_toArray, List.set_cons_zero, List.set_cons_succ]
  refine held_ready (i := 31) rfl (by kernel_rfl) (fun K hK => ?_)
  go_simp
  refine r7.out.mono ?_
  rintro e w8 ⟨rfl, B8⟩
  have st8 := st7.out.below B8
  have b8 : Below w.heap.size w w8 := b7.out.trans (B8.mono s7)
  replace st8 := Lib.hid st8
  replace b8 := Lib.hid b8
  replace B8 := Lib.hid B8
  refine hK.out _ _ (st8.out) (fun hHeldN => ?_)
  clear hHeld hK K
  have hHeld := hHeldN
  clear hHeldN
  try simp only [Act.put, List.setIfInBounds_toArray, List.set_cons_zero, List.set_cons_succ]
  refine held_take (i := 32) (v := ?_) rfl (by kernel_rfl) (by kernel_rfl) (by kernel_rfl) (fun _ _ _ h => h) (Or.inl ⟨by rfl, ?_⟩) (by assumption) ?_
  rotate_left
  · intro w hSw; (try dsimp only at hSw); go_simp; try with_reducible rfl
  try simp only [Act.put, List.setIfInBounds_toArray, List.set_cons_zero, List.set_cons_succ]
  refine held_take (i := 33) (v := ?_) rfl (by kernel_rfl) (by kernel_rfl) (by kernel_rfl) (fun _ _ _ h => h) (Or.inl ⟨by rfl, ?_⟩) (by assumption) ?_
  rotate_left
  · intro w hSw; (try dsimp only at hSw); go_simp; try with_reducible rfl
  try simp only [Act.put, List.setIfInBounds_toArray, List.set_cons_zero, List.set_cons_succ]
  refine wpAnyH_done (by kernel_rfl) ?_ _
  clear hHeld
  go_wp2_with fail
  go_ret
  exact ⟨rfl, b8.out⟩

end Go.Proofs.Ytjbmdeppoobccaa
