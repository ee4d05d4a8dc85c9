/-
  Layer 2's law ShaWrites. Condition: none but the texts' reading.
-/
import Derived.Test.YtjbmdeppoobccaaShaPieces02
namespace Go.Proofs.Ytjbmdeppoobccaa
open Go.RowKit

/-- Each of n cells of a block holds a byte and may be written. -/
def SomeBytes (w : World) (g n : Nat) : Prop := ∀ j, j < n → ∃ x : Nat, x < 256 ∧ w.cell? ⟨g, j, none⟩ = some (.int .u8 (x : Int)) ∧ w.frozen? ⟨g, j, none⟩ = false
theorem SomeBytes.set {w : World} {g n : Nat} (h : SomeBytes w g n) (k x : Nat) (hx : x < 256) : SomeBytes (w.setCell ⟨g, k, none⟩ (.int .u8 (x : Int))) g n := fun j hj => by
  obtain ⟨y, h1, h2, h3⟩ := h j hj
  by_cases e : j = k
  · subst e
    exact ⟨x, hx, World.cell?_setCell_same _ _ _ h2, by rw [World.frozen?_setCell]; exact h3⟩
  · exact ⟨y, h1, by rw [World.cell?_setCell_other _ _ _ _ (fun e' => by cases e'; exact e rfl)]; exact h2, by rw [World.frozen?_setCell]; exact h3⟩
theorem u8_flip (x : Nat) (hx : x < 256) : bits .xor .u8 (x : Int) 255 = ((x ^^^ 255 : Nat) : Int) := u8_xor_nat x 255 hx (by decide)

/-- A slice of the call's own that is not nil: its block. -/
theorem Own.at_ {w : World} {base n : Nat} {e : TypeId} {ao : Option Addr} {cap : Nat} {xs : List Value} (h : Own w base e (.slice ao n cap) xs) (hs : ao ≠ none) : ∃ g, ao = some ⟨g, 0, none⟩ ∧ base ≤ g ∧ g < w.heap.size := by
  rcases h.2 with ⟨hv, _⟩ | ⟨g, cap', cur, hv, hb0, hgg, _⟩
  · cases hv; exact absurd rfl hs
  · cases hv; exact ⟨g, rfl, hb0, lt_of_block hgg⟩
theorem Own.bytes {w : World} {base n g : Nat} {cap : Nat} {t : List Nat} (h : Own w base 5 (.slice (some ⟨g, 0, none⟩) n cap) (u8l t)) (ht : ∀ x ∈ t, x < 256) : SomeBytes w g t.length := fun j hj => by
  obtain ⟨ao, cap', e, _, _, _, _, hc⟩ := h.form
  cases e
  have hj' : (u8l t)[j]? = some (.int .u8 ((t[j]'hj : Nat) : Int)) := by simp [u8l, hj]
  obtain ⟨g', e, h1, h2⟩ := hc j _ hj'
  cases e
  exact ⟨t[j], ht _ (List.getElem_mem hj), h1, h2⟩
theorem getD_flat {w : World} {ao : Option Addr} {ls : List (List Nat)} (h : TextsAt w ao ls) (k : Nat) : ∀ x ∈ ls.getD k [], x < 256 := by
  intro x hx
  by_cases hk : k < ls.length
  · have e : ls.getD k [] = ls[k] := by simp [List.getD, hk]
    rw [e] at hx
    exact flat_lt h x (List.mem_flatten.2 ⟨_, List.getElem_mem hk, hx⟩)
  · simp [List.getD, Nat.le_of_not_lt hk] at hx

set_option maxRecDepth 100000 in
set_option maxHeartbeats 4000000 in
theorem shaWrites_any (w : World) (ls : List (List Nat)) (m : Nat) (ao : Option Addr) (cap : Nat) (hl : TextsAt w ao ls) (em : ls.length = m) (hm : m < 9223372036854775808) (hcap : m ≤ cap) :
    Calls Try.prog 4 #[.slice ao m cap] w fun e w' => e = .returned (.bool true) ∧ Below w.heap.size w w' := by
  have gr := great_any w ao cap ls hl (by omega)
  obtain ⟨G, hG⟩ : ∃ G, G = (decide (12 < ls.length) || ls.any fun t => decide (400 < t.length)) := ⟨_, rfl⟩
  rw [← hG, em] at gr
  replace gr := Lib.hid gr
  replace hl := Lib.hid hl
  replace em := Lib.hid em
  replace hG := Lib.hid hG
  go_enter Try.func4, Try.ntmps4
  go_wp2_with fail
  refine gr.out.mono ?_
  rintro e w1 ⟨rfl, rfl⟩
  cases G with
  | true =>
    go_wp2_with fail
    refine (alive02 _).mono ?_
    rintro e w1 ⟨rfl, B1⟩
    go_wp2_with fail
    go_ret
    exact ⟨rfl, B1⟩
  | false =>
    obtain ⟨s12, s400, s48⟩ := great_small (hG.out).symm
    rw [em.out] at s12
    replace s400 := Lib.hid s400
    clear gr hG
    go_wp2_with fail
    refine (new_any _).mono ?_
    rintro e w1 ⟨b, hwb, rfl, hP, hB⟩
    have start : HashP w1 b (joinTo ls 0) (joinTo ls 0).length ∧ Below w.heap.size w w1 := ⟨hP, hB⟩
    replace start := Lib.hid start
    clear hP hB
    go_wp2_with fail
    go_loopw [4] (fun i wr => ∃ k : Nat, k ≤ m ∧ i = .int .i64 k ∧ HashP wr b (joinTo ls k) (joinTo ls k).length ∧ Below w.heap.size w wr) (fun i _ => m - (intOf i).toNat)
    case atStart => exact ⟨0, Nat.zero_le _, rfl, start.out⟩
    case round =>
      obtain ⟨k, hk, rfl, hP, hB⟩ := hrel
      by_cases hlt : k < m
      · have hk' : k < ls.length := by rw [em.out]; exact hlt
        obtain ⟨ob, oo, rfl, ai, ci, hc, hci, hby, hno⟩ := hl.out k hk'
        have c1 := (hB.cell (block_lt_of_cell hc)).trans hc
        have hob : ob < wr.heap.size := block_lt_of_cell c1
        have hle := joinTo_le ls (k + 1)
        have hsucc := joinTo_succ ls hk'
        have hlenk : (ls.getD k []).length ≤ 400 := s400.out _ (by simp [List.getD, hk'])
        have hsm := getD_flat hl.out k
        have hT : TextAt wr (.slice ai (ls.getD k []).length ci) (ls.getD k []) := ⟨_, _, rfl, hci, hno, hby.below hB⟩
        have hsx := hB.size
        have hb1 := hP.lt
        clear hc
        generalize ls.getD k [] = d at *
        obtain ⟨dn, hdn⟩ : ∃ dn, dn = d.length := ⟨_, rfl⟩
        rw [← hdn] at c1 hT hlenk
        replace hP := Lib.hid hP
        replace hB := Lib.hid hB
        replace hby := Lib.hid hby
        replace hsucc := Lib.hid hsucc
        replace hT := Lib.hid hT
        replace hsm := Lib.hid hsm
        replace hdn := Lib.hid hdn
        replace hno := Lib.hid hno
        clear hci
        go_wp2_with (at_builtin; refine wpList_append_t (by rfl) (.tmp 28) (.tmp 32) rfl wr.heap.size wr (.slice (some ⟨wr.heap.size, 0, none⟩) 0 0) [] rfl (Own.empty _ (Nat.le_refl _)) ((Below.refl _ _).alloc (Nat.le_refl _) _) (by simp) (.slice ai dn ci) d rfl (hT.out.alloc _) (by have := hdn.out; simp; omega) ?_; intro v2 w2 O2 B2 _ hblk)
        have hv2 : ∃ g c2, v2 = .slice (some ⟨g, 0, none⟩) dn c2 ∧ wr.heap.size ≤ g ∧ g < w2.heap.size ∧ dn ≤ c2 := by
          obtain ⟨a2, c2, e2, q1, _, q2, q3, _⟩ := O2.out.form
          rw [show (u8l ([] ++ d)).length = dn by rw [hdn.out]; simp [u8l]] at e2 q1 q2
          have hne : a2 ≠ none := fun e => by
            rw [e2, e] at hblk
            rcases hblk.out with h | h <;> simp [Value.ownBlock] at h
          subst e2
          obtain ⟨g, rfl, g1, g2⟩ := O2.out.at_ hne
          exact ⟨g, c2, rfl, g1, g2, q1⟩
        obtain ⟨g, c2, rfl, hg1, hg2, hdc⟩ := hv2
        have O2' : Own w2 wr.heap.size 5 (.slice (some ⟨g, 0, none⟩) dn c2) (u8l d) := O2.out
        have T2 := O2'.text hsm.out
        have SB2 := O2'.bytes hsm.out
        rw [← hdn.out] at SB2
        have hB2 : Below w.heap.size w w2 := hB.out.trans (B2.out.mono hsx)
        have hP2 : HashP w2 b (joinTo ls k) (joinTo ls k).length := hP.out.stay (S := fun _ => False) (Upd.of_below B2.out) id
        obtain ⟨a', c', e', p1, p2, p3⟩ := T2.ex
        rw [← hdn.out] at e' p1 p3
        cases e'
        have wt := write_any w2 b _ _ (some ⟨g, 0, none⟩) dn c2 (byt d) hP2 p1 (by rw [hsucc.out, List.length_append] at hle; omega) p3 (fun _ ob' oo' e => by cases e; omega)
        rw [show bytesOf (byt d) dn = d by rw [hdn.out, bytesOf_byt], ← hsucc.out] at wt
        have hs2 := hB2.size
        replace O2' := Lib.hid O2'
        replace T2 := Lib.hid T2
        replace SB2 := Lib.hid SB2
        replace hB2 := Lib.hid hB2
        replace hP2 := Lib.hid hP2
        replace wt := Lib.hid wt
        replace p3 := Lib.hid p3
        clear O2 B2 hblk p2 p1
        refine wt.out.mono ?_
        rintro e w3 ⟨rfl, P3, U3⟩
        have hP3 : HashP w3 b (joinTo ls (k + 1)) (joinTo ls (k + 1)).length := by
          have e : (joinTo ls k).length + dn = (joinTo ls (k + 1)).length := by rw [hsucc.out, List.length_append, hdn.out]
          rw [← e]; exact P3
        have SB3 : SomeBytes w3 g dn := fun j hj => by
          obtain ⟨x, x1, x2, x3⟩ := SB2.out j hj
          have hgb : g ≠ b := by omega
          have hh := U3.block g hg2 hgb
          exact ⟨x, x1, (World.cell?_of_block (a := ⟨g, j, none⟩) hh).trans x2, by unfold World.frozen? at x3 ⊢; rw [hh]; exact x3⟩
        have hB3 : Below w.heap.size w w3 := hB2.out.trans (U3.below (fun i hi e => by omega) hs2)
        replace hP3 := Lib.hid hP3
        replace SB3 := Lib.hid SB3
        replace hB3 := Lib.hid hB3
        clear P3 U3 wt SB2 T2
        obtain ⟨wq, rfl⟩ : ∃ wq : World, wq = w3 := ⟨_, rfl⟩
        obtain ⟨wo, rfl⟩ : ∃ wo : World, wo = wr := ⟨_, rfl⟩
        go_wp2_with fail
        go_loopw [7] (fun i wr' => ∃ j : Nat, j ≤ dn ∧ i = .int .i64 j ∧ SomeBytes wr' g dn ∧ Upd (fun i => i = g) wq wr') (fun i _ => dn - (intOf i).toNat)
        case atStart => exact ⟨0, Nat.zero_le _, rfl, SB3.out, Upd.refl _ _⟩
        case round =>
          obtain ⟨j, hj, rfl, hS, hU⟩ := hrel
          by_cases hjt : j < dn
          · obtain ⟨x, hx, hcx, hfx⟩ := hS j hjt
            have hfl := u8_flip x hx
            have hx2 : x ^^^ 255 < 256 := Nat.xor_lt_two_pow (n := 8) hx (by decide)
            have nS := hS.set j _ hx2
            have nU := hU.setCell ⟨g, j, none⟩ (.int .u8 ((x ^^^ 255 : Nat) : Int)) (fun _ => rfl)
            generalize x ^^^ 255 = y at *
            replace hS := Lib.hid hS
            replace hU := Lib.hid hU
            replace nS := Lib.hid nS
            replace nU := Lib.hid nU
            go_wp2_with fail
            go_roundw
            case rel => exact ⟨j + 1, by omega, by go_num, nS.out, nU.out⟩
            case measure => simp [intOf]; omega
          · obtain rfl : j = dn := by omega
            obtain ⟨w4, rfl⟩ : ∃ w4 : World, w4 = wr := ⟨_, rfl⟩
            have hgb : b ≠ g := by omega
            have hs3 := hB3.out.size
            have hP4 : HashP w4 b (joinTo ls (k + 1)) (joinTo ls (k + 1)).length := hP3.out.stay hU (fun e => hgb e)
            have hB4 : Below w.heap.size w w4 := hB3.out.trans (hU.below (fun i hi e => by omega) hs3)
            have hs4 := hB4.size
            have hlp := hP4.lt
            have sm := sum_any w4 b _ hP4 (by omega)
            have jo := fun w' (h : TextsAt w' (some ⟨ob, oo, none⟩) ls) => ref_join w' (some ⟨ob, oo, none⟩) cap (ls.take (k + 1)) (h.take _) (by
              show (joinTo ls (k + 1)).length ≤ 1000000
              omega) (by rw [List.length_take]; omega)
            rw [List.length_take, em.out, Nat.min_eq_left (show k + 1 ≤ m by omega)] at jo
            have ej : (ls.take (k + 1)).flatten = joinTo ls (k + 1) := rfl
            rw [ej] at jo
            have hJ : ∀ x ∈ joinTo ls (k + 1), x < 256 := fun x hx => by
              refine flat_lt hl.out x ?_
              obtain ⟨t, ht, hxt⟩ := List.mem_flatten.1 hx
              exact List.mem_flatten.2 ⟨t, List.mem_of_mem_take ht, hxt⟩
            have hslice := run_cut_h (P := Try.prog) (T := 23) (e := 22) Try.underlying23 (by kernel_rfl) (some ⟨ob, oo, none⟩) m cap (k + 1) (by omega) ((k : Int) + 1) (by omega)
            generalize hJe : joinTo ls (k + 1) = J at *
            have i1 := info_sum J
            have o1 := one_s J
            have l1 : (u8s (sumOf J)).size = 32 := size_sumOf _
            have dk : ¬ (j : Int) < (j : Int) := by omega
            replace hP4 := Lib.hid hP4
            replace hB4 := Lib.hid hB4
            replace sm := Lib.hid sm
            replace jo := Lib.hid jo
            replace hJ := Lib.hid hJ
            replace hU := Lib.hid hU
            replace hS := Lib.hid hS
            replace ej := Lib.hid ej
            replace hsucc := Lib.hid hsucc
            replace hJe := Lib.hid hJe
            clear SB3 hP2 hB2 O2' p3 hP3 hB3
            go_wp2_with fail
            refine sm.out.mono ?_
            rintro e w5 ⟨rfl, B5⟩
            have hP5 : HashP w5 b J J.length := hP4.out.stay (S := fun _ => False) (Upd.of_below B5) id
            have hB5 : Below w.heap.size w w5 := hB4.out.trans (B5.mono hs4)
            have hs5 := hB5.size
            replace hP5 := Lib.hid hP5
            replace hB5 := Lib.hid hB5
            replace B5 := Lib.hid B5
            clear hP4 hB4 sm
            go_wp2_with (first
              | (refine wpList_store_row rfl 27 (.tmp 8) (.tmp 54) rfl w5.heap.size (u8s (sumOf J)) rfl rfl 27 (u8s (List.replicate 32 0)) (heap_alloc_new _ _) i1 (by rw [l1]; rfl) o1 ?_
                 refine name_world ?_; intro w6 hw6))
            have X6 : RowB w6 w5.heap.size 27 (sumOf J) := by rw [hw6.out]; exact setRow_heap _ _ _ _ _ _ (heap_alloc_new _ _)
            have U6 : Below w5.heap.size w5 w6 := by rw [hw6.out]; exact below_setRow ((Below.refl _ _).alloc (Nat.le_refl _) _) (Nat.le_refl _) _
            have hP6 : HashP w6.drew b J J.length := (hP5.out.stay (S := fun _ => False) (Upd.of_below U6) id).stay (S := fun _ => False) ((Upd.refl _ _).drew) id
            have hB6 : Below w.heap.size w w6.drew := (hB5.out.trans (U6.mono hs5)).drew
            have X6' : RowB w6.drew w5.heap.size 27 (sumOf J) := X6
            have hs6 := hB6.size
            have hlt6 := X6'.lt
            have TS : ∀ w', RowB w' w5.heap.size 27 (sumOf J) → TextAt w' (.slice (some ⟨w5.heap.size, 0, none⟩) 32 32) (sumOf J) := fun w' h => h.text (sumOf_lt J) (length_sumOf J)
            replace X6 := Lib.hid X6
            replace U6 := Lib.hid U6
            replace hP6 := Lib.hid hP6
            replace hB6 := Lib.hid hB6
            replace X6' := Lib.hid X6'
            replace TS := Lib.hid TS
            clear hw6 hP5 hB5 B5
            have hwr : IntKind.i64.wrap ((k : Int) + 1) = (k : Int) + 1 := IntWalk.i64_in _ (by omega)
            refine wp_region_held_drew (S := (fun w' => RowB w' w5.heap.size 27 (sumOf J))) (by kernel_rfl) (X6'.out) (fun hHeld => ?_)
            refine held_take (i := 0) (v := ?_) rfl (by kernel_rfl) (by kernel_rfl) (by kernel_rfl) (fun _ _ _ h => h) (Or.inl ⟨by rfl, ?_⟩) (by assumption) ?_
            rotate_left
            · intro w hSw; (try dsimp only at hSw); go_simp; try with_reducible rfl
            try simp only [Act.put, List.setIfInBounds_toArray, List.set_cons_zero, List.set_cons_succ]
            refine held_take (i := 1) (v := ?_) rfl (by kernel_rfl) (by kernel_rfl) (by kernel_rfl) (fun _ _ _ h => h) (Or.inl ⟨by rfl, ?_⟩) (by assumption) ?_
            rotate_left
            · intro w hSw; (try dsimp only at hSw); go_simp; try with_reducible rfl
            try simp only [Act.put, List.setIfInBounds_toArray, List.set_cons_zero, List.set_cons_succ]
            refine held_take (i := 2) (v := ?_) rfl (by kernel_rfl) (by kernel_rfl) (by kernel_rfl) (fun _ _ _ h => h) (Or.inl ⟨by rfl, ?_⟩) (by assumption) ?_
            rotate_left
            · intro w hSw; (try dsimp only at hSw); go_simp; try with_reducible rfl
            try simp only [Act.put, List.setIfInBounds_toArray, List.set_cons_zero, List.set_cons_succ]
            refine held_take (i := 3) (v := ?_) rfl (by kernel_rfl) (by kernel_rfl) (by kernel_rfl) (fun _ _ _ h => h) (Or.inl ⟨by rfl, ?_⟩) (by assumption) ?_
            rotate_left
            · intro w hSw; (try dsimp only at hSw); go_simp; try with_reducible rfl
            try simp only [Act.put, List.setIfInBounds_toArray, List.set_cons_zero, List.set_cons_succ]
            refine held_take (i := 4) (v := ?_) rfl (by kernel_rfl) (by kernel_rfl) (by kernel_rfl) (fun _ _ _ h => h) (Or.inl ⟨by rfl, ?_⟩) (by assumption) ?_
            rotate_left
            · intro w hSw; (try dsimp only at hSw); go_simp; try with_reducible rfl
            try simp only [Act.put, List.setIfInBounds_toArray, List.set_cons_zero, List.set_cons_succ]
            refine held_take (i := 5) (v := ?_) rfl (by kernel_rfl) (by kernel_rfl) (by kernel_rfl) (fun _ _ _ h => h) (Or.inl ⟨by rfl, ?_⟩) (by assumption) ?_
            rotate_left
            · intro w hSw; (try dsimp only at hSw); go_simp; try with_reducible rfl
            try simp only [Act.put, List.setIfInBounds_toArray, List.set_cons_zero, List.set_cons_succ]
            refine held_take (i := 6) (v := ?_) rfl (by kernel_rfl) (by kernel_rfl) (by kernel_rfl) (fun _ _ _ h => h) (Or.inl ⟨by rfl, ?_⟩) (by assumption) ?_
            rotate_left
            · intro w hSw; (try dsimp only at hSw); go_simp; try with_reducible rfl
            try simp only [Act.put, List.setIfInBounds_toArray, List.set_cons_zero, List.set_cons_succ]
            refine held_take (i := 7) (v := ?_) rfl (by kernel_rfl) (by kernel_rfl) (by kernel_rfl) (fun _ _ _ h => h) (Or.inl ⟨by rfl, ?_⟩) (by assumption) ?_
            rotate_left
            · intro w hSw; (try dsimp only at hSw); go_simp; try with_reducible rfl
            try simp only [Act.put, List.setIfInBounds_toArray, List.set_cons_zero, List.set_cons_succ]
            refine held_take (i := 8) (v := _) rfl (by kernel_rfl) (by kernel_rfl) (by kernel_rfl) (fun _ _ _ h => h) (yieldsIf_str (by rfl) rfl rfl (v := .slice (some ⟨w5.heap.size, 0, none⟩) 32 32) TS.out) (by assumption) ?_
            try simp only [Act.put, List.setIfInBounds_toArray, List.set_cons_zero, List.set_cons_succ]
            refine held_take (i := 9) (v := ?_) rfl (by kernel_rfl) (by kernel_rfl) (by kernel_rfl) (fun _ _ _ h => h) (Or.inl ⟨by rfl, ?_⟩) (by assumption) ?_
            rotate_left
            · intro w hSw; (try dsimp only at hSw); go_simp; try with_reducible rfl
            try simp only [Act.put, List.setIfInBounds_toArray, List.set_cons_zero, List.set_cons_succ]
            refine held_take (i := 10) (v := ?_) rfl (by kernel_rfl) (by kernel_rfl) (by kernel_rfl) (fun _ _ _ h => h) (Or.inl ⟨by rfl, ?_⟩) (by assumption) ?_
            rotate_left
            · intro w hSw; (try dsimp only at hSw); go_simp; try with_reducible rfl
            try simp only [Act.put, List.setIfInBounds_toArray, List.set_cons_zero, List.set_cons_succ]
            refine held_take (i := 11) (v := ?_) rfl (by kernel_rfl) (by kernel_rfl) (by kernel_rfl) (fun _ _ _ h => h) (Or.inl ⟨by rfl, ?_⟩) (by assumption) ?_
            rotate_left
            · intro w hSw; (try dsimp only at hSw); go_simp; try with_reducible rfl
            try simp only [Act.put, List.setIfInBounds_toArray, List.set_cons_zero, List.set_cons_succ]
            refine held_take (i := 12) (v := ?_) rfl (by kernel_rfl) (by kernel_rfl) (by kernel_rfl) (fun _ _ _ h => h) (Or.inl ⟨by rfl, ?_⟩) (by assumption) ?_
            rotate_left
            · intro w hSw; (try dsimp only at hSw); go_simp; try with_reducible rfl
            try simp only [Act.put, List.setIfInBounds_toArray, List.set_cons_zero, List.set_cons_succ]
            refine held_ready (i := 13) rfl (by kernel_rfl) (fun K hK => ?_)
            go_simp
            refine (jo.out _ (hl.out.below hB6.out)).mono ?_; rintro e w7 ⟨v7, rfl, O7, B7⟩
            have X7 := X6'.out.other (B7.block _ hlt6)
            have hP7 : HashP w7 b J J.length := hP6.out.stay (S := fun _ => False) (Upd.of_below B7) id
            have hB7 : Below w.heap.size w w7 := hB6.out.trans (B7.mono hs6)
            have t7 := O7.text hJ.out
            have hs7 := hB7.size
            have hlt7 := X7.lt
            replace X7 := Lib.hid X7
            replace hP7 := Lib.hid hP7
            replace hB7 := Lib.hid hB7
            replace t7 := Lib.hid t7
            replace O7 := Lib.hid O7
            replace B7 := Lib.hid B7
            refine hK.out _ _ (X7.out) (fun hHeld => ?_)
            clear hK K
            try simp only [Act.put, List.setIfInBounds_toArray, List.set_cons_zero, List.set_cons_succ]
            refine held_ready (i := 14) rfl (by kernel_rfl) (fun K hK => ?_)
            go_simp
            refine (ref_sum w7 v7 J t7.out (by omega)).mono ?_; rintro e w8 ⟨v8, rfl, O8, B8⟩
            have X8 := X7.out.other (B8.block _ hlt7)
            have hP8 : HashP w8 b J J.length := hP7.out.stay (S := fun _ => False) (Upd.of_below B8) id
            have hB8 : Below w.heap.size w w8 := hB7.out.trans (B8.mono hs7)
            have c8 := run_str (O8.text (sumOf_lt J))
            replace X8 := Lib.hid X8
            replace hP8 := Lib.hid hP8
            replace hB8 := Lib.hid hB8
            replace O8 := Lib.hid O8
            replace B8 := Lib.hid B8
            refine hK.out _ _ (X8.out) (fun hHeld => ?_)
            clear hK K
            try simp only [Act.put, List.setIfInBounds_toArray, List.set_cons_zero, List.set_cons_succ]
            refine held_ready (i := 15) rfl (by kernel_rfl) (fun K hK => ?_)
            go_simp
            refine hK.out _ _ (X8.out) (fun hHeld => ?_)
            clear hK K
            try simp only [Act.put, List.setIfInBounds_toArray, List.set_cons_zero, List.set_cons_succ]
            refine held_take (i := 16) (v := ?_) rfl (by kernel_rfl) (by kernel_rfl) (by kernel_rfl) (fun _ _ _ h => h) (Or.inl ⟨by rfl, ?_⟩) (by assumption) ?_
            rotate_left
            · intro w hSw; (try dsimp only at hSw); go_simp; try with_reducible rfl
            try simp only [Act.put, List.setIfInBounds_toArray, List.set_cons_zero, List.set_cons_succ]
            refine held_take (i := 17) (v := ?_) rfl (by kernel_rfl) (by kernel_rfl) (by kernel_rfl) (fun _ _ _ h => h) (Or.inl ⟨by rfl, ?_⟩) (by assumption) ?_
            rotate_left
            · intro w hSw; (try dsimp only at hSw); go_simp; try with_reducible rfl
            try simp only [Act.put, List.setIfInBounds_toArray, List.set_cons_zero, List.set_cons_succ]
            refine wpAnyH_done (by kernel_rfl) ?_ _
            go_wp2_with fail
            go_roundw
            case rel => exact ⟨k + 1, by omega, by go_num, by rw [hJe.out]; exact hP8.out, hB8.out⟩
            case measure => simp [intOf]; omega
      · obtain rfl : k = m := by omega
        have hs := hB.size
        have i0 : (Try.prog.info? 27).map (·.size) = some (u8s (List.replicate 32 0)).size := by kernel_rfl
        have o0 : (u8s (List.replicate 32 0)).all (·.oneCell') = true := by simp [u8s, Value.oneCell']
        have l0 : (u8s (List.replicate 32 0)).size = 32 := by rfl
        replace hB := Lib.hid hB
        replace hP := Lib.hid hP
        go_wp2_with fail
        refine (sum_not _ _ (.inl rfl)).mono ?_
        rintro e w2 ⟨rfl, B2⟩
        have Z2 : w2.cell? ⟨wr.heap.size, 0, none⟩ = some (.bool false) := (B2.cell (p := ⟨wr.heap.size, 0, none⟩) (by simp)).trans ((cell_of_row _ _ _ _ _ _ (heap_alloc_new _ _)).trans rfl)
        have hB2 : Below w.heap.size w w2 := (hB.out.alloc hs _).trans (B2.mono (by simp; omega))
        have hs2 := hB2.size
        have lz2 := block_lt_of_cell Z2
        replace B2 := Lib.hid B2
        replace Z2 := Lib.hid Z2
        replace hB2 := Lib.hid hB2
        obtain ⟨R0, hR0⟩ : ∃ R0, R0 = List.replicate 32 0 := ⟨_, rfl⟩
        rw [← hR0] at i0 o0 l0 ⊢
        replace hR0 := Lib.hid hR0
        go_wp2_with (first
          | (refine wpList_store_row rfl 27 (.tmp 12) (.tmp 77) rfl w2.heap.size (u8s R0) rfl rfl 27 (u8s (List.replicate 32 0)) (heap_alloc_new _ _) i0 (by rw [l0]; rfl) o0 ?_
             refine name_world ?_; intro w3 hw3))
        have U3 : Below w2.heap.size w2 w3 := by rw [hw3.out]; exact below_setRow ((Below.refl _ _).alloc (Nat.le_refl _) _) (Nat.le_refl _) _
        have Z3 : w3.cell? ⟨wr.heap.size, 0, none⟩ = some (.bool false) := (U3.cell lz2).trans Z2.out
        have hB3 : Below w.heap.size w w3 := hB2.out.trans (U3.mono hs2)
        have hs3 := hB3.size
        have lz3 := block_lt_of_cell Z3
        have sn := sum_not w3 (.pointer (some ⟨wr.heap.size, 0, none⟩)) (.inr ⟨_, rfl, Z3⟩)
        replace hw3 := Lib.hid hw3
        replace U3 := Lib.hid U3
        replace Z3 := Lib.hid Z3
        replace hB3 := Lib.hid hB3
        replace sn := Lib.hid sn
        refine sn.out.mono ?_
        rintro e w4 ⟨rfl, B4⟩
        have Z4 : w4.cell? ⟨wr.heap.size, 0, none⟩ = some (.bool false) := (B4.cell lz3).trans Z3.out
        have hB4 : Below w.heap.size w w4 := hB3.out.trans (B4.mono hs3)
        have hs4 := hB4.size
        have lz4 := block_lt_of_cell Z4
        replace B4 := Lib.hid B4
        replace Z4 := Lib.hid Z4
        replace hB4 := Lib.hid hB4
        rw [← hR0.out]
        go_wp2_with (first
          | (refine wpList_store_row rfl 27 (.tmp 14) (.tmp 81) rfl w4.heap.size (u8s R0) rfl rfl 27 (u8s (List.replicate 32 0)) (heap_alloc_new _ _) i0 (by rw [l0]; rfl) o0 ?_
             refine name_world ?_; intro w5 hw5))
        have U5 : Below w4.heap.size w4 w5 := by rw [hw5.out]; exact below_setRow ((Below.refl _ _).alloc (Nat.le_refl _) _) (Nat.le_refl _) _
        have Z5 : w5.cell? ⟨wr.heap.size, 0, none⟩ = some (.bool false) := (U5.cell lz4).trans Z4.out
        have hB5 : Below w.heap.size w w5 := hB4.out.trans (U5.mono hs4)
        have hs5 := hB5.size
        have lz5 := block_lt_of_cell Z5
        replace hw5 := Lib.hid hw5
        replace U5 := Lib.hid U5
        replace Z5 := Lib.hid Z5
        replace hB5 := Lib.hid hB5
        refine (alive02 _).mono ?_
        rintro e w6 ⟨rfl, B6⟩
        have Z6 : w6.cell? ⟨wr.heap.size, 0, none⟩ = some (.bool false) := (B6.cell lz5).trans Z5.out
        have hB6 : Below w.heap.size w w6 := hB5.out.trans (B6.mono hs5)
        replace B6 := Lib.hid B6
        replace Z6 := Lib.hid Z6
        replace hB6 := Lib.hid hB6
        go_wp2_with fail
        refine (write_not w6 (.pointer none) _ (.inl rfl)).mono ?_
        rintro e w7 ⟨rfl, rfl⟩
        go_wp2_with fail
        refine (write_not w6 _ _ (.inr ⟨_, rfl, Z6.out⟩)).mono ?_
        rintro e w8 ⟨rfl, rfl⟩
        go_wp2_with fail
        go_ret
        exact ⟨rfl, hB6.out⟩

end Go.Proofs.Ytjbmdeppoobccaa
