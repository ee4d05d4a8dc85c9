/-
  The reference of layer 8: Clash. Conditions: the list lies in blocks of its own; texts not too long.
-/
import Derived.Test.YtjbmdeppoobccaaRef08b
import Derived.Test.YtjbmdeppoobccaaRefClashPlain
namespace Go.Proofs.Ytjbmdeppoobccaa
open Go.RowKit Go.Maps

theorem infoStr : (Try.prog.info? 9).map (fun i => (i.zero, i.size, i.bytes)) = some (some (.string ByteArray.empty), 1, 16) := by kernel_rfl
/-- The sums of the first k texts, as strings. -/
def sumStrs (T : List (List Nat)) (k : Nat) : List Value := (List.range k).map fun i => .string (strOf (sumOf (T.getD i [])))
theorem sumStrs_succ (T : List (List Nat)) (k : Nat) : sumStrs T (k + 1) = sumStrs T k ++ [.string (strOf (sumOf (T.getD k [])))] := by
  unfold sumStrs; rw [List.range_succ, List.map_append]; rfl
theorem sumStrs_len (T : List (List Nat)) (k : Nat) : (sumStrs T k).length = k := by simp [sumStrs]
theorem sumStrs_get (T : List (List Nat)) {k i : Nat} (h : i < k) : (sumStrs T k)[i]? = some (.string (strOf (sumOf (T.getD i [])))) := by simp [sumStrs, h]
/-- What the reference's Clash says. -/
def RClashSays (w : World) (T : List (List Nat)) (e : Ending) (w' : World) : Prop :=
  (match clashOf T with
    | none => e = .returned (.tuple #[.int .i64 0, .int .i64 0, .bool false])
    | some (p, q) => ∃ i j : Nat, e = .returned (.tuple #[.int .i64 i, .int .i64 j, .bool true]) ∧ i < T.length ∧ j < T.length ∧ T.getD i [] = p ∧ T.getD j [] = q) ∧ Below w.heap.size w w'

set_option maxHeartbeats 4000000 in
set_option maxRecDepth 100000 in
theorem r8clash_any {w : World} {G : Nat → Prop} {r : Nat} {v : Value} {T : List (List Nat)} (h : RefLog w G r v T) (hl : ∀ t ∈ T, t.length ≤ 1000000) (hT : T.length < 100000000) :
    Calls Try.prog 42 #[.pointer (some ⟨r, 0, none⟩)] w (RClashSays w T) := by
  obtain ⟨ao, cap, rfl, hcap, hno, tx⟩ := h.list.texts
  have c0 : w.cell? ⟨r, 0, none⟩ = some (.slice ao T.length cap) := (cell_of_row _ _ 0 _ _ _ h.row).trans rfl
  obtain ⟨n, en⟩ : ∃ n, n = T.length := ⟨_, rfl⟩
  rw [← en] at hcap c0 hT
  replace h := Lib.hid h
  replace tx := Lib.hid tx
  replace en := Lib.hid en
  replace c0 := Lib.hid c0
  replace hcap := Lib.hid hcap
  replace hno := Lib.hid hno
  replace hl := Lib.hid hl
  go_enter Try.func42, Try.ntmps42
  go_wp2_with fail
  go_loopw [5, 6] (fun s i wr => ∃ k : Nat, k ≤ n ∧ i = .int .i64 k ∧ noClash T k ∧ Own wr w.heap.size 9 s (sumStrs T k) ∧ Below w.heap.size w wr) (fun _ i _ => n - (intOf i).toNat)
  case atStart => exact ⟨0, Nat.zero_le _, rfl, noClash_zero T, Own.nil _ _ _, Below.refl _ _⟩
  case round =>
    obtain ⟨k, hk, rfl, hN, hO, hB⟩ := hrel
    have cr := (hB.cell (block_lt_of_cell c0.out)).trans c0.out
    by_cases hlt : k < n
    · obtain ⟨ob, oo, rfl, ai, ci, hc1, hc2, hc3, hc4⟩ := tx.out k (by rw [← en.out]; exact hlt)
      have tk : TextAt w (.slice ai (T.getD k []).length ci) (T.getD k []) := ⟨ai, ci, rfl, hc2, hc4, hc3⟩
      have hkT : k < T.length := by rw [← en.out]; exact hlt
      have hmem : T.getD k [] ∈ T := by simp [List.getD, hkT]
      have lk := hl.out _ hmem
      have hce := (hB.cell (block_lt_of_cell hc1)).trans hc1
      have cs := ref_sum wr _ _ (tk.below hB) lk
      have estr := sumStrs_succ T k
      have nN := fun (hn : noneOf T k (sumOf (T.getD k []))) => noClash_next hN hkT hn
      have nF := fun (q : Nat) (hq : q < k) (hn : noneOf T q (sumOf (T.getD k []))) (hs : sumOf (T.getD q []) = sumOf (T.getD k [])) => clash_found hN hkT hq hn hs
      obtain ⟨t, et⟩ : ∃ t, t = T.getD k [] := ⟨_, rfl⟩
      rw [← et] at hc1 hce cs estr nN nF
      clear hmem tk hc1 hc2 hc3 hc4 lk
      replace hN := Lib.hid hN
      replace hO := Lib.hid hO
      replace hB := Lib.hid hB
      replace et := Lib.hid et
      replace cs := Lib.hid cs
      replace estr := Lib.hid estr
      replace nN := Lib.hid nN
      replace nF := Lib.hid nF
      replace hkT := Lib.hid hkT
      have kn : (k : Int) < (n : Int) := by omega
      go_wp2_with fail
      refine cs.out.mono ?_
      rintro e w5 ⟨v5, rfl, o5, B5⟩
      have rs := run_str (o5.text (sumOf_lt t))
      have O5 := hO.out.below B5
      have low5 := hB.out.trans (B5.mono hB.out.size)
      have cr5 := (B5.cell (block_lt_of_cell cr)).trans cr
      replace o5 := Lib.hid o5
      replace B5 := Lib.hid B5
      replace O5 := Lib.hid O5
      replace low5 := Lib.hid low5
      clear cs hO
      go_wp2_with fail
      go_loop [8] (fun i => ∃ q : Nat, q ≤ k ∧ i = .int .i64 q ∧ noneOf T q (sumOf t)) (fun i => k - (intOf i).toNat)
      case atStart => exact ⟨0, Nat.zero_le _, rfl, noneOf_zero _ _⟩
      case round =>
        obtain ⟨q, hq, rfl, hQ⟩ := hrel
        by_cases hqk : q < k
        · obtain ⟨aS, cS, es, s1, s2, s3, s4, s5⟩ := O5.out.form
          rw [sumStrs_len] at es s1 s3
          subst es
          obtain ⟨gs, rfl, hcs, _⟩ := s5 q _ (sumStrs_get T hqk)
          have sd := str_dec (sumOf_lt (T.getD q [])) (sumOf_lt t)
          have sl := str_lst (sumOf_lt (T.getD q [])) (sumOf_lt t)
          have hqT : q < T.length := by have := hkT.out; omega
          clear s5
          by_cases hs : sumOf (T.getD q []) = sumOf t
          · have fnd := nF.out q hqk hQ hs
            rw [show (sumOf (T.getD q []) == sumOf t) = true from beq_iff_eq.2 hs] at sd sl
            have ek : t = T.getD k [] := et.out
            have se : strOf (sumOf (T.getD q [])) = strOf (sumOf t) := of_decide_eq_true sd
            generalize strOf (sumOf (T.getD q [])) = sq at *
            generalize strOf (sumOf t) = sk at *
            replace hQ := Lib.hid hQ
            replace hs := Lib.hid hs
            replace hqT := Lib.hid hqT
            replace fnd := Lib.hid fnd
            replace ek := Lib.hid ek
            go_wp2_with fail
            go_ret3
            refine ⟨?_, low5.out⟩
            rw [fnd.out]
            exact ⟨q, k, rfl, hqT.out, hkT.out, rfl, ek.out.symm⟩
          · have nx := noneOf_next hQ hqT hs
            rw [show (sumOf (T.getD q []) == sumOf t) = false from beq_eq_false_iff_ne.2 hs] at sd sl
            have se : ¬ strOf (sumOf (T.getD q [])) = strOf (sumOf t) := of_decide_eq_false sd
            generalize strOf (sumOf (T.getD q [])) = sq at *
            generalize strOf (sumOf t) = sk at *
            replace hQ := Lib.hid hQ
            replace hs := Lib.hid hs
            replace hqT := Lib.hid hqT
            replace nx := Lib.hid nx
            go_wp2_with fail
            go_roundw
            case rel => exact ⟨q + 1, by omega, by go_num, nx.out⟩
            case measure => simp [intOf]; omega
        · obtain rfl : q = k := by omega
          have nx := nN.out hQ
          have ls : (sumStrs T q).length ≤ 100000000 := by rw [sumStrs_len]; omega
          rw [← et.out] at *
          have eo := estr.out
          obtain ⟨X, eX⟩ : ∃ X, X = sumStrs T q := ⟨_, rfl⟩
          have O5' := O5.out
          rw [← eX] at ls eo O5'
          generalize strOf (sumOf t) = sk at *
          have Ba : Below w5.heap.size w5 (w5.alloc (.cells #[.string sk] 9)) := (Below.refl _ _).alloc (Nat.le_refl _) _
          have O6 := O5'.below Ba
          have low6 := low5.out.trans (Ba.mono low5.out.size)
          have s6 := low6.size
          have nw : ∀ (j : Nat) (u : Value), [Value.string sk][j]? = some u → ∃ ad, (some (⟨w5.heap.size, 0, none⟩ : Addr)) = some ad ∧ (w5.alloc (.cells #[.string sk] 9)).cell? (ad.add j) = some u := fun j u hj => ⟨_, rfl, cell_one_new w5 (.string sk) 9 j u hj⟩
          replace hQ := Lib.hid hQ
          replace nx := Lib.hid nx
          replace O5 := Lib.hid O5
          replace O5' := Lib.hid O5'
          replace eX := Lib.hid eX
          replace eo := Lib.hid eo
          replace Ba := Lib.hid Ba
          replace O6 := Lib.hid O6
          replace low6 := Lib.hid low6
          replace s6 := Lib.hid s6
          replace nw := Lib.hid nw
          replace ls := Lib.hid ls
          go_wp2_with (at_builtin; refine wpList_append_x rfl (.tmp 40) (.tmp 42) 86 rfl 9 Try.underlying86 (.string ByteArray.empty) 16 infoStr rfl (by decide) w.heap.size w u5 X rfl O6.out low6.out s6.out (some ⟨w5.heap.size, 0, none⟩) 1 1 [.string sk] rfl rfl (fun e => by simp at e) nw.out (by intro u hu; simp at hu; subst hu; rfl) (by have := ls.out; omega) ?_; intro v7 w7 o7 B7 _ _)
          go_roundw
          case rel => exact ⟨q + 1, by omega, by go_num, nx.out, by rw [eo.out]; exact o7.out, B7.out⟩
          case measure => simp [intOf]; omega
    · obtain rfl : k = n := by omega
      have nc := clash_none (T := T) (by rw [← en.out]; exact hN)
      replace hN := Lib.hid hN
      replace hO := Lib.hid hO
      replace hB := Lib.hid hB
      replace nc := Lib.hid nc
      go_wp2_with fail
      go_ret3
      refine ⟨?_, hB.out⟩
      rw [nc.out]
      exact rfl
end Go.Proofs.Ytjbmdeppoobccaa
