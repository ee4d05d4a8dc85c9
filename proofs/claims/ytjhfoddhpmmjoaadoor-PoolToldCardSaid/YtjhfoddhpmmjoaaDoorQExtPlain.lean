/-
  Package bits: New, Taken, and Hold, Drop, Times, Free for every argument. No condition beyond the row's own bounds.
  A field of extents, plainly: tenants with reserves and quotas, what each call tells and leaves. No condition; no program in sight.
-/
import Derived.Test.YtjhfoddhpmmjoaaDoorQTz
import Derived.Deep.OwnRows
namespace Go.Proofs.YtjhfoddhpmmjoaaDoor
set_option maxRecDepth 100000
open Go.RowKit Go.Maps

theorem info86 : (Tryd.prog.info? 61).map (fun i => (i.zero, i.size, i.bytes)) = some (some (.int .u64 0), 1, 8) := by kernel_rfl

theorem cells_zero (n : Nat) : madeCells #[.int .u64 0] (nw n) = wordCells (fun _ => 0) n := by
  apply Array.ext
  · simp [madeCells, wordCells]
  · intro i h1 h2
    have e : wordOf (fun _ => 0) i = 0 := by
      apply Nat.eq_of_testBit_eq
      intro k
      rw [wordOf_testBit]; simp
    simp [madeCells, wordCells, e, Nat.mod_one]

theorem tk_zero : ∀ n, tk (fun _ => 0) n = 0
  | 0 => rfl
  | n + 1 => by simp [tk, tk_zero n]

theorem bnew_bad (n : Int) (w : World) (h : n < 1 ∨ 65536 < n) :
    Calls Tryd.prog 52 #[.int .i64 n] w fun e w' => e = .returned (.tuple #[.pointer .none, .int .i64 1]) ∧ w = w' := by
  rcases h with h | h
  · go_enter Tryd.func52, Tryd.ntmps52
    go_wp2
    go_ret2
    exact ⟨rfl, rfl⟩
  · have h' : ¬ n < 1 := by omega
    go_enter Tryd.func52, Tryd.ntmps52
    go_wp2
    go_ret2
    exact ⟨rfl, rfl⟩

/-- What New says of a size that serves. -/
def NewSays (n : Nat) (w : World) (e : Ending) (w' : World) : Prop :=
  ∃ b bw bm, w.heap.size ≤ b ∧ w.heap.size ≤ bw ∧ w.heap.size ≤ bm ∧ e = .returned (.tuple #[.pointer (some ⟨b, 0, none⟩), .int .i64 0]) ∧ RowAt w' b bw bm n 0 (fun _ => 0) ∧ Below w.heap.size w w'

theorem new_row (n : Nat) (w : World) (h1 : 1 ≤ n) (h2 : n ≤ 65536) :
    RowAt (((w.alloc (.cells (madeCells #[.int .u64 0] (nw n)) 61)).alloc (.map #[] 0)).alloc (.cells #[.int .i64 n, .slice (some ⟨w.heap.size, 0, none⟩) (nw n) (nw n), .map (some (w.heap.size + 1)), .int .i64 0] 132))
      (w.heap.size + 2) w.heap.size (w.heap.size + 1) n 0 (fun _ => 0) := by
  refine ⟨h1, h2, fun _ _ => rfl, fun _ => by omega, ?_, ?_, .map [], ?_, fun i _ => rfl⟩
  · have := heap_alloc_new ((w.alloc (.cells (madeCells #[.int .u64 0] (nw n)) 61)).alloc (.map #[] 0)) (.cells #[.int .i64 n, .slice (some ⟨w.heap.size, 0, none⟩) (nw n) (nw n), .map (some (w.heap.size + 1)), .int .i64 0] 132)
    simp only [World.size_alloc, Nat.add_assoc, Nat.reduceAdd] at this
    rw [this, tk_zero]; rfl
  · rw [heap_alloc_old (h := by simp; omega), heap_alloc_old (h := by simp), heap_alloc_new, cells_zero]
  · have := World.ownsMap_made (H := Unit) (w.alloc (.cells (madeCells #[.int .u64 0] (nw n)) 61)) Tryd.prog 3 (plainElem Tryd.prog 3)
    simp only [World.size_alloc] at this
    exact this.alloc _

set_option maxRecDepth 100000 in
theorem bnew_ok (n : Nat) (w : World) (h1 : 1 ≤ n) (h2 : n ≤ 65536) : Calls Tryd.prog 52 #[.int .i64 n] w (NewSays n w) := by
  have e : ((n : Int) + 64 - 1) / 64 = (nw n : Int) := by unfold nw; omega
  have hmm := @run_makeMap Tryd.prog
  have hmk : ∀ w, (Instr.makeSlice 129 (.int .i64 (((n : Int) + 64 - 1) / 64)) (.int .i64 (((n : Int) + 64 - 1) / 64))).run Tryd.prog w = .ok (.slice (some ⟨w.heap.size, 0, none⟩) (nw n) (nw n)) (w.alloc (.cells (madeCells #[.int .u64 0] (nw n)) 61)) := by
    intro w
    rw [e]
    exact run_make_row' 129 61 (.int .u64 0) 8 Tryd.underlying129 info86 rfl .i64 .i64 (nw n) (by unfold nw; omega) (by unfold nw; omega) w
  clear e
  have hr := Lib.hid (new_row n w h1 h2)
  go_enter Tryd.func52, Tryd.ntmps52
  go_wp2
  refine bodyPost_ret (v := .tuple #[.pointer (some ⟨w.heap.size + 2, 0, none⟩), .int .i64 0]) ?_ rfl ?_
  · simp [results, Tryd.results52, go_sem]
  · exact ⟨w.heap.size + 2, w.heap.size, w.heap.size + 1, by omega, by omega, by omega, rfl, hr.out, (((Below.refl _ _).alloc (Nat.le_refl _) _).alloc (by simp) _).alloc (by simp; omega) _⟩

def holdRes (n : Nat) (L : Nat → Nat) (i : Int) : Int := if i < 0 ∨ (n : Int) ≤ i then 1 else if L i.toNat = 2147483647 then 5 else 0
def holdL (n : Nat) (L : Nat → Nat) (i : Int) : Nat → Nat := if i < 0 ∨ (n : Int) ≤ i then L else if L i.toNat = 2147483647 then L else up L i.toNat (L i.toNat + 1)
def dropFree (n : Nat) (L : Nat → Nat) (i : Int) : Bool := if i < 0 ∨ (n : Int) ≤ i then false else decide (L i.toNat = 1)
def dropRes (n : Nat) (L : Nat → Nat) (i : Int) : Int := if i < 0 ∨ (n : Int) ≤ i then 1 else if L i.toNat = 0 then 7 else 0
def dropL (n : Nat) (L : Nat → Nat) (i : Int) : Nat → Nat := if i < 0 ∨ (n : Int) ≤ i then L else up L i.toNat (L i.toNat - 1)
def timesI (n : Nat) (L : Nat → Nat) (i : Int) : Int := if i < 0 ∨ (n : Int) ≤ i then 0 else L i.toNat

theorem RowAt.mono {w : World} {b bw bm n m m' : Nat} {L : Nat → Nat} (h : RowAt w b bw bm n m L) (hm : m ≤ m') : RowAt w b bw bm n m' L := by
  obtain ⟨D, hD, hM⟩ := h.map
  exact ⟨h.lo, h.hi, h.off, h.most, h.row, h.words, D, hD.mono hm, hM⟩

def HoldSays (b bw bm n m : Nat) (L : Nat → Nat) (i : Int) (w : World) (e : Ending) (w' : World) : Prop :=
  e = .returned (.int .i64 (holdRes n L i)) ∧ RowAt w' b bw bm n (m + 1) (holdL n L i) ∧ Upd (Three b bw bm) w w'

theorem hold_any {w : World} {b bw bm n m : Nat} {L : Nat → Nat} (hr : RowAt w b bw bm n m L) (hm : m < 1000000000000) (i : Int) :
    Calls Tryd.prog 51 #[.pointer (some ⟨b, 0, none⟩), .int .i64 i] w (HoldSays b bw bm n m L i w) := by
  by_cases hi : i < 0 ∨ (n : Int) ≤ i
  · refine (hold_out b 0 n i w hr.c0 (by have := hr.lo; omega) hi).mono ?_
    rintro e w' ⟨rfl, rfl⟩
    exact ⟨by unfold holdRes; rw [if_pos hi], by unfold holdL; rw [if_pos hi]; exact hr.mono (by omega), Upd.refl _ _⟩
  · obtain ⟨k, rfl⟩ : ∃ k : Nat, i = k := ⟨i.toNat, by omega⟩
    have hk : k < n := by omega
    by_cases h5 : L k = 2147483647
    · refine (hold_most hr k hk h5).mono ?_
      rintro e w' ⟨rfl, rfl⟩
      exact ⟨by unfold holdRes; rw [if_neg hi, if_pos (by simpa using h5)], by unfold holdL; rw [if_neg hi, if_pos (by simpa using h5)]; exact hr.mono (by omega), Upd.refl _ _⟩
    · by_cases h0 : L k = 0
      · refine (hold_first hr k hk h0).mono ?_
        rintro e w' ⟨rfl, h1, h2⟩
        refine ⟨by unfold holdRes; rw [if_neg hi, if_neg (by simpa using h5)], ?_, h2⟩
        unfold holdL; rw [if_neg hi, if_neg (by simpa using h5)]
        simp only [Int.toNat_natCast, h0]
        exact h1.mono (by omega)
      · have hmo := hr.most k
        refine (hold_again hr k hk (by omega) (by omega) hm).mono ?_
        rintro e w' ⟨rfl, h1, h2⟩
        refine ⟨by unfold holdRes; rw [if_neg hi, if_neg (by simpa using h5)], ?_, h2⟩
        unfold holdL; rw [if_neg hi, if_neg (by simpa using h5)]
        simpa only [Int.toNat_natCast] using h1

def DropSays (b bw bm n m : Nat) (L : Nat → Nat) (i : Int) (w : World) (e : Ending) (w' : World) : Prop :=
  e = .returned (.tuple #[.bool (dropFree n L i), .int .i64 (dropRes n L i)]) ∧ RowAt w' b bw bm n (m + 1) (dropL n L i) ∧ Upd (Three b bw bm) w w'

theorem up_self (L : Nat → Nat) (i : Nat) : up L i (L i) = L := by
  funext k
  by_cases e : k = i
  · subst e; exact up_same _ _ _
  · exact up_other _ _ e

theorem drop_any {w : World} {b bw bm n m : Nat} {L : Nat → Nat} (hr : RowAt w b bw bm n m L) (hm : m < 1000000000000) (i : Int) :
    Calls Tryd.prog 45 #[.pointer (some ⟨b, 0, none⟩), .int .i64 i] w (DropSays b bw bm n m L i w) := by
  by_cases hi : i < 0 ∨ (n : Int) ≤ i
  · refine (drop_out b 0 n i w hr.c0 (by have := hr.lo; omega) hi).mono ?_
    rintro e w' ⟨rfl, rfl⟩
    exact ⟨by unfold dropFree dropRes; rw [if_pos hi, if_pos hi], by unfold dropL; rw [if_pos hi]; exact hr.mono (by omega), Upd.refl _ _⟩
  · obtain ⟨k, rfl⟩ : ∃ k : Nat, i = k := ⟨i.toNat, by omega⟩
    have hk : k < n := by omega
    have key : ∀ e w', (∃ x y, e = .returned (.tuple #[.bool x, .int .i64 y]) ∧ x = decide (L k = 1) ∧ y = (if L k = 0 then 7 else 0)) → RowAt w' b bw bm n (m + 1) (up L k (L k - 1)) → Upd (Three b bw bm) w w' → DropSays b bw bm n m L (k : Int) w e w' := by
      rintro e w' ⟨x, y, rfl, rfl, rfl⟩ h2 h3
      refine ⟨?_, ?_, h3⟩
      · unfold dropFree dropRes; rw [if_neg hi, if_neg hi]; simp only [Int.toNat_natCast]
      · unfold dropL; rw [if_neg hi]; simpa only [Int.toNat_natCast] using h2
    by_cases h0 : L k = 0
    · refine (drop_free hr k hk h0).mono ?_
      rintro e w' ⟨rfl, rfl⟩
      refine key _ _ ⟨_, _, rfl, by simp [h0], by simp [h0]⟩ ?_ (Upd.refl _ _)
      rw [show L k - 1 = L k by omega, up_self]; exact hr.mono (by omega)
    · by_cases h1 : L k = 1
      · refine (drop_last hr k hk h1).mono ?_
        rintro e w' ⟨rfl, h2, h3⟩
        exact key _ _ ⟨_, _, rfl, by simp [h1], by simp [h1]⟩ (by rw [h1]; exact h2.mono (by omega)) h3
      · by_cases h2 : L k = 2
        · refine (drop_two hr k hk h2).mono ?_
          rintro e w' ⟨rfl, h2', h3⟩
          exact key _ _ ⟨_, _, rfl, by simp [h1], by simp [h0]⟩ (by rw [h2]; exact h2'.mono (by omega)) h3
        · refine (drop_more hr k hk (by omega) hm).mono ?_
          rintro e w' ⟨rfl, h2', h3⟩
          exact key _ _ ⟨_, _, rfl, by simp [h1], by simp [h0]⟩ h2' h3

theorem times_any {w : World} {b bw bm n m : Nat} {L : Nat → Nat} (hr : RowAt w b bw bm n m L) (i : Int) :
    Calls Tryd.prog 47 #[.pointer (some ⟨b, 0, none⟩), .int .i64 i] w fun e w' => e = .returned (.int .i64 (timesI n L i)) ∧ w = w' := by
  unfold timesI
  by_cases hi : i < 0 ∨ (n : Int) ≤ i
  · rw [if_pos hi]
    exact times_out b 0 n i w hr.c0 (by have := hr.lo; omega) hi
  · rw [if_neg hi]
    obtain ⟨k, rfl⟩ : ∃ k : Nat, i = k := ⟨i.toNat, by omega⟩
    exact times_in hr k (by omega)

theorem free_all {w : World} {b bw bm n m : Nat} {L : Nat → Nat} (hr : RowAt w b bw bm n m L) (hT : TabAt w) (f : Int) :
    Calls Tryd.prog 50 #[.pointer (some ⟨b, 0, none⟩), .int .i64 f] w (FreeSays L n f.toNat w) := by
  by_cases h : f.toNat < n
  · exact free_any hr hT f _ rfl h
  · refine (free_beyond b 0 n f w hr.c0 (by omega)).mono ?_
    rintro e w' ⟨rfl, rfl⟩
    exact ⟨.none, fun i a b => by omega, rfl, rfl⟩

theorem size_at {w : World} {b bw bm n m : Nat} {L : Nat → Nat} (hr : RowAt w b bw bm n m L) :
    Calls Tryd.prog 61 #[.pointer (some ⟨b, 0, none⟩)] w fun e w' => e = .returned (.int .i64 n) ∧ w = w' := size_any _ _ _ _ hr.c0

end Go.Proofs.YtjhfoddhpmmjoaaDoor
namespace Go.Proofs.YtjhfoddhpmmjoaaDoor
set_option maxRecDepth 100000

structure Ten where
  on : Bool
  r : Nat
  q : Nat
  c : Nat
def Ten.no : Ten := ⟨false, 0, 0, 0⟩
def Ten.part (x : Ten) : Nat := if x.on = true then max x.r x.c else 0
def setT (T : Nat → Ten) (t : Nat) (x : Ten) : Nat → Ten := fun k => if k = t then x else T k
theorem setT_same (T : Nat → Ten) (t : Nat) (x : Ten) : setT T t x t = x := if_pos rfl
theorem setT_other (T : Nat → Ten) {t k : Nat} (x : Ten) (h : k ≠ t) : setT T t x k = T k := if_neg h
/-- All parts but one's. -/
def sumP (T : Nat → Ten) (but : Nat) : Nat → Nat
  | 0 => 0
  | k + 1 => sumP T but k + if k = but then 0 else (T k).part
/-- All parts. -/
def sumA (T : Nat → Ten) : Nat → Nat
  | 0 => 0
  | k + 1 => sumA T k + (T k).part
def sumC (T : Nat → Ten) : Nat → Nat
  | 0 => 0
  | k + 1 => sumC T k + (T k).c
def sumR (T : Nat → Ten) : Nat → Nat
  | 0 => 0
  | k + 1 => sumR T k + (T k).r
theorem sumP_all (T : Nat → Ten) {but : Nat} : ∀ k, sumP T but k + (if but < k then (T but).part else 0) = sumA T k
  | 0 => rfl
  | k + 1 => by
    have ih := sumP_all T (but := but) k
    unfold sumP sumA
    by_cases h : k = but
    · subst h
      rw [if_pos rfl, if_pos (Nat.lt_succ_self _)]
      rw [if_neg (Nat.lt_irrefl _)] at ih
      omega
    · rw [if_neg h]
      by_cases hb : but < k
      · rw [if_pos hb] at ih; rw [if_pos (by omega)]; omega
      · rw [if_neg hb] at ih; rw [if_neg (by omega)]; omega
theorem sumA_set (T : Nat → Ten) (t : Nat) (x : Ten) : ∀ k, sumA (setT T t x) k + (if t < k then (T t).part else 0) = sumA T k + (if t < k then x.part else 0)
  | 0 => rfl
  | k + 1 => by
    have ih := sumA_set T t x k
    unfold sumA
    by_cases h : k = t
    · subst h
      rw [setT_same, if_pos (Nat.lt_succ_self _), if_pos (Nat.lt_succ_self _)]
      rw [if_neg (Nat.lt_irrefl _), if_neg (Nat.lt_irrefl _)] at ih
      omega
    · rw [setT_other T x h]
      by_cases hb : t < k
      · rw [if_pos hb, if_pos hb] at ih; rw [if_pos (by omega), if_pos (by omega)]; omega
      · rw [if_neg hb, if_neg hb] at ih; rw [if_neg (by omega), if_neg (by omega)]; omega
theorem sumC_set (T : Nat → Ten) (t : Nat) (x : Ten) : ∀ k, sumC (setT T t x) k + (if t < k then (T t).c else 0) = sumC T k + (if t < k then x.c else 0)
  | 0 => rfl
  | k + 1 => by
    have ih := sumC_set T t x k
    unfold sumC
    by_cases h : k = t
    · subst h
      rw [setT_same, if_pos (Nat.lt_succ_self _), if_pos (Nat.lt_succ_self _)]
      rw [if_neg (Nat.lt_irrefl _), if_neg (Nat.lt_irrefl _)] at ih
      omega
    · rw [setT_other T x h]
      by_cases hb : t < k
      · rw [if_pos hb, if_pos hb] at ih; rw [if_pos (by omega), if_pos (by omega)]; omega
      · rw [if_neg hb, if_neg hb] at ih; rw [if_neg (by omega), if_neg (by omega)]; omega
theorem part_le_sumA (T : Nat → Ten) {t : Nat} : ∀ k, t < k → (T t).part ≤ sumA T k
  | 0, h => by omega
  | k + 1, h => by
    unfold sumA
    by_cases e : t = k
    · subst e; omega
    · have := part_le_sumA T (t := t) k (by omega); omega

/-- What a field keeps is right. -/
structure Good (n : Nat) (L : Nat → Nat) (T : Nat → Ten) : Prop where
  none0 : (T 0).on = false
  off : ∀ t, (T t).on = false → T t = Ten.no
  lim : ∀ t, (T t).r ≤ (T t).q ∧ (T t).q ≤ n ∧ (T t).c ≤ (T t).q
  fits : sumA T 9 ≤ n
  taken : sumC T 9 = tk L n
theorem Good.sums {n : Nat} {L : Nat → Nat} {T : Nat → Ten} (h : Good n L T) : ∀ k, sumC T k ≤ sumA T k ∧ sumR T k ≤ sumA T k
  | 0 => ⟨Nat.le_refl _, Nat.le_refl _⟩
  | k + 1 => by
    have ih := h.sums k
    unfold sumC sumR sumA
    by_cases e : (T k).on = true
    · unfold Ten.part; rw [if_pos e]; omega
    · have := h.off k (by simpa using e)
      rw [this]; simp only [Ten.no, Ten.part, Nat.add_zero]; simp; exact ih
theorem Good.zero {n : Nat} {L : Nat → Nat} {T : Nat → Ten} (h : Good n L T) : T 0 = Ten.no := h.off 0 h.none0
theorem part_no : Ten.no.part = 0 := rfl
theorem Good.sumP0 {n : Nat} {L : Nat → Nat} {T : Nat → Ten} (h : Good n L T) : sumP T 0 9 = sumA T 9 := by
  have := sumP_all T (but := 0) 9
  rw [h.zero] at this
  simpa [part_no] using this
theorem Good.begin (n : Nat) : Good n (fun _ => 0) (fun _ => Ten.no) :=
  ⟨rfl, fun _ _ => rfl, fun _ => ⟨Nat.le_refl _, Nat.zero_le _, Nat.le_refl _⟩, Nat.zero_le _, by rw [tk_zero]; rfl⟩

/-! ### What is told -/
def badLim (n : Nat) (t r q : Int) : Bool := decide (t < 1 ∨ 8 < t ∨ r < 0 ∨ q < r ∨ (n : Int) < q)
def isIn (T : Nat → Ten) (t : Int) : Bool := decide (1 ≤ t ∧ t ≤ 8) && (T t.toNat).on
def admitE (n : Nat) (T : Nat → Ten) (t r q : Int) : Int := if badLim n t r q = true then 1 else if (T t.toNat).on = true then 53 else if (n : Int) - (sumA T 9 : Int) < r then 61 else 0
def admitT (n : Nat) (T : Nat → Ten) (t r q : Int) : Nat → Ten := if admitE n T t r q = 0 then setT T t.toNat ⟨true, r.toNat, q.toNat, 0⟩ else T
def resizeE (n : Nat) (T : Nat → Ten) (t r q : Int) : Int := if badLim n t r q = true then 1 else if (T t.toNat).on = false then 51 else if q < ((T t.toNat).c : Int) then 60 else if (n : Int) - (sumP T t.toNat 9 : Int) < max r ((T t.toNat).c : Int) then 61 else 0
def resizeT (n : Nat) (T : Nat → Ten) (t r q : Int) : Nat → Ten := if resizeE n T t r q = 0 then setT T t.toNat ⟨true, r.toNat, q.toNat, (T t.toNat).c⟩ else T
def removeE (T : Nat → Ten) (t : Int) : Int := if isIn T t = false then 51 else if (T t.toNat).c = 0 then 0 else 7
def removeT (T : Nat → Ten) (t : Int) : Nat → Ten := if removeE T t = 0 then setT T t.toNat Ten.no else T
def roomE (n : Nat) (T : Nat → Ten) (x : Ten) : Int := if x.q ≤ x.c then 60 else if x.r ≤ x.c ∧ sumA T 9 = n then 61 else 0
def bumpT (T : Nat → Ten) (t : Nat) : Nat → Ten := setT T t ⟨(T t).on, (T t).r, (T t).q, (T t).c + 1⟩
def lessT (T : Nat → Ten) (t : Nat) : Nat → Ten := setT T t ⟨(T t).on, (T t).r, (T t).q, (T t).c - 1⟩
def claimE (n : Nat) (L : Nat → Nat) (T : Nat → Ten) (t : Int) (e : Nat) : Int := if n ≤ e then 1 else if isIn T t = false then 51 else if 0 < L e then holdRes n L e else roomE n T (T t.toNat)
def claimL (n : Nat) (L : Nat → Nat) (T : Nat → Ten) (t : Int) (e : Nat) : Nat → Nat := if claimE n L T t e = 0 then up L e (L e + 1) else L
def claimT (n : Nat) (L : Nat → Nat) (T : Nat → Ten) (t : Int) (e : Nat) : Nat → Ten := if claimE n L T t e = 0 ∧ L e = 0 then bumpT T t.toNat else T
def hold1E (n : Nat) (L : Nat → Nat) (e : Nat) : Int := if n ≤ e then 1 else if L e = 0 then 7 else holdRes n L e
def hold1L (n : Nat) (L : Nat → Nat) (e : Nat) : Nat → Nat := if hold1E n L e = 0 then up L e (L e + 1) else L
def dropE (n : Nat) (L : Nat → Nat) (T : Nat → Ten) (t : Int) (e : Nat) : Int := if n ≤ e then 1 else if isIn T t = false then 51 else if L e = 0 ∨ (T t.toNat).c = 0 then 7 else 0
def dropL1 (n : Nat) (L : Nat → Nat) (T : Nat → Ten) (t : Int) (e : Nat) : Nat → Nat := if dropE n L T t e = 0 then up L e (L e - 1) else L
def dropT (n : Nat) (L : Nat → Nat) (T : Nat → Ten) (t : Int) (e : Nat) : Nat → Ten := if dropE n L T t e = 0 ∧ L e = 1 then lessT T t.toNat else T

theorem isIn_pos {T : Nat → Ten} {t : Int} (h : isIn T t = true) : 1 ≤ t.toNat ∧ t.toNat ≤ 8 ∧ (t.toNat : Int) = t ∧ (T t.toNat).on = true := by
  unfold isIn at h
  rw [Bool.and_eq_true, decide_eq_true_iff] at h
  exact ⟨by omega, by omega, by omega, h.2⟩
/-- A tenant that is there, set anew. -/
theorem Good.set {n : Nat} {L L' : Nat → Nat} {T : Nat → Ten} (h : Good n L T) {t : Nat} (h1 : 1 ≤ t) (h8 : t ≤ 8) {x : Ten} (hon : x.on = true) (hl : x.r ≤ x.q ∧ x.q ≤ n ∧ x.c ≤ x.q)
    (hf : sumA T 9 + x.part ≤ n + (T t).part) (ht : tk L' n + (T t).c = tk L n + x.c) : Good n L' (setT T t x) := by
  refine ⟨?_, fun k hk => ?_, fun k => ?_, ?_, ?_⟩
  · rw [setT_other T x (by omega)]; exact h.none0
  · by_cases e : k = t
    · subst e; rw [setT_same] at hk; rw [hon] at hk; exact absurd hk (by simp)
    · rw [setT_other T x e] at hk ⊢; exact h.off k hk
  · by_cases e : k = t
    · subst e; rw [setT_same]; exact hl
    · rw [setT_other T x e]; exact h.lim k
  · have := sumA_set T t x 9
    rw [if_pos (by omega), if_pos (by omega)] at this
    omega
  · have := sumC_set T t x 9
    rw [if_pos (by omega), if_pos (by omega)] at this
    have := h.taken
    omega
theorem part_on {x : Ten} (h : x.on = true) : x.part = max x.r x.c := by unfold Ten.part; rw [if_pos h]
theorem Good.admd {n : Nat} {L : Nat → Nat} {T : Nat → Ten} (h : Good n L T) (t r q : Int) : Good n L (admitT n T t r q) := by
  unfold admitT
  by_cases e : admitE n T t r q = 0
  · rw [if_pos e]
    unfold admitE at e
    split at e
    · omega
    · rename_i hb
      split at e
      · omega
      · rename_i hon
        split at e
        · omega
        · rename_i hs
          have hb' : ¬ (t < 1 ∨ 8 < t ∨ r < 0 ∨ q < r ∨ (n : Int) < q) := by simpa [badLim] using hb
          have hno := h.off t.toNat (by simpa using hon)
          refine h.set (by omega) (by omega) rfl ⟨?_, ?_, ?_⟩ ?_ ?_
          · show r.toNat ≤ q.toNat; omega
          · show q.toNat ≤ n; omega
          · show 0 ≤ q.toNat; omega
          · rw [hno, part_no, part_on rfl]; show sumA T 9 + max r.toNat 0 ≤ n + 0; omega
          · rw [hno]; rfl
  · rw [if_neg e]; exact h
theorem Good.resize {n : Nat} {L : Nat → Nat} {T : Nat → Ten} (h : Good n L T) (t r q : Int) : Good n L (resizeT n T t r q) := by
  unfold resizeT
  by_cases e : resizeE n T t r q = 0
  · rw [if_pos e]
    unfold resizeE at e
    split at e
    · omega
    · rename_i hb
      split at e
      · omega
      · rename_i hon
        split at e
        · omega
        · rename_i hq
          split at e
          · omega
          · rename_i hs
            have hb' : ¬ (t < 1 ∨ 8 < t ∨ r < 0 ∨ q < r ∨ (n : Int) < q) := by simpa [badLim] using hb
            have hon' : (T t.toNat).on = true := by simpa using hon
            have hp := sumP_all T (but := t.toNat) 9
            rw [if_pos (by omega)] at hp
            refine h.set (by omega) (by omega) rfl ⟨?_, ?_, ?_⟩ ?_ ?_
            · show r.toNat ≤ q.toNat; omega
            · show q.toNat ≤ n; omega
            · show (T t.toNat).c ≤ q.toNat; omega
            · rw [part_on rfl]; show sumA T 9 + max r.toNat (T t.toNat).c ≤ n + (T t.toNat).part; omega
            · rfl
  · rw [if_neg e]; exact h
theorem Good.remove {n : Nat} {L : Nat → Nat} {T : Nat → Ten} (h : Good n L T) (t : Int) : Good n L (removeT T t) := by
  unfold removeT
  by_cases e : removeE T t = 0
  · rw [if_pos e]
    unfold removeE at e
    split at e
    · omega
    · rename_i hi
      split at e
      · rename_i hc
        obtain ⟨h1, h8, _, hon⟩ := isIn_pos (by simpa using hi : isIn T t = true)
        refine ⟨?_, fun k hk => ?_, fun k => ?_, ?_, ?_⟩
        · rw [setT_other T _ (by omega)]; exact h.none0
        · by_cases ek : k = t.toNat
          · subst ek; rw [setT_same]
          · rw [setT_other T _ ek] at hk ⊢; exact h.off k hk
        · by_cases ek : k = t.toNat
          · subst ek; rw [setT_same]; exact ⟨Nat.le_refl _, Nat.zero_le _, Nat.le_refl _⟩
          · rw [setT_other T _ ek]; exact h.lim k
        · have := sumA_set T t.toNat Ten.no 9
          rw [if_pos (by omega), if_pos (by omega), part_no] at this
          have := h.fits
          omega
        · have := sumC_set T t.toNat Ten.no 9
          rw [if_pos (by omega), if_pos (by omega), hc] at this
          have := h.taken
          simp only [Ten.no] at *
          omega
      · omega
  · rw [if_neg e]; exact h
theorem roomE_zero {n : Nat} {T : Nat → Ten} {x : Ten} (h : roomE n T x = 0) : x.c < x.q ∧ (x.c < x.r ∨ sumA T 9 ≠ n) := by
  unfold roomE at h
  split at h
  · omega
  · split at h
    · omega
    · rename_i h1 h2
      refine ⟨by omega, ?_⟩
      by_cases h3 : x.r ≤ x.c
      · exact .inr fun e => h2 ⟨h3, e⟩
      · exact .inl (by omega)
theorem Good.bump {n : Nat} {L : Nat → Nat} {T : Nat → Ten} (h : Good n L T) {t : Int} (hi : isIn T t = true) (hr : roomE n T (T t.toNat) = 0) {e : Nat} (he : e < n) (h0 : L e = 0) : Good n (up L e 1) (bumpT T t.toNat) := by
  obtain ⟨h1, h8, _, hon⟩ := isIn_pos hi
  obtain ⟨hq, hs⟩ := roomE_zero hr
  have hl := h.lim t.toNat
  refine h.set h1 h8 hon ⟨hl.1, hl.2.1, ?_⟩ ?_ ?_
  · show (T t.toNat).c + 1 ≤ (T t.toNat).q; omega
  · rw [part_on hon, part_on (x := ⟨(T t.toNat).on, (T t.toNat).r, (T t.toNat).q, (T t.toNat).c + 1⟩) hon]
    have := h.fits
    show sumA T 9 + max (T t.toNat).r ((T t.toNat).c + 1) ≤ n + max (T t.toNat).r (T t.toNat).c
    omega
  · have := tk_up (v := 1) L n he
    rw [h0] at this
    simp at this
    show tk (up L e 1) n + (T t.toNat).c = tk L n + ((T t.toNat).c + 1)
    omega
theorem Good.like {n : Nat} {L : Nat → Nat} {T : Nat → Ten} (h : Good n L T) {e v : Nat} (he : e < n) (hv : 0 < v ↔ 0 < L e) : Good n (up L e v) T :=
  ⟨h.none0, h.off, h.lim, h.fits, by rw [tk_like L n he hv]; exact h.taken⟩
theorem Good.less {n : Nat} {L : Nat → Nat} {T : Nat → Ten} (h : Good n L T) {t : Int} (hi : isIn T t = true) (hc : (T t.toNat).c ≠ 0) {e : Nat} (he : e < n) (h1e : L e = 1) : Good n (up L e 0) (lessT T t.toNat) := by
  obtain ⟨h1, h8, _, hon⟩ := isIn_pos hi
  have hl := h.lim t.toNat
  refine h.set h1 h8 hon ⟨hl.1, hl.2.1, ?_⟩ ?_ ?_
  · show (T t.toNat).c - 1 ≤ (T t.toNat).q; omega
  · rw [part_on hon, part_on (x := ⟨(T t.toNat).on, (T t.toNat).r, (T t.toNat).q, (T t.toNat).c - 1⟩) hon]
    have := h.fits
    show sumA T 9 + max (T t.toNat).r ((T t.toNat).c - 1) ≤ n + max (T t.toNat).r (T t.toNat).c
    omega
  · have := tk_up (v := 0) L n he
    rw [h1e] at this
    simp at this
    show tk (up L e 0) n + (T t.toNat).c = tk L n + ((T t.toNat).c - 1)
    omega
theorem tk_free {L : Nat → Nat} : ∀ n, tk L n < n → ∃ i, i < n ∧ L i = 0
  | 0, h => by omega
  | n + 1, h => by
    by_cases e : L n = 0
    · exact ⟨n, Nat.lt_succ_self _, e⟩
    · have h3 : tk L n + 1 < n + 1 := by
        have h2 : tk L n + (if 0 < L n then 1 else 0) < n + 1 := h
        rwa [if_pos (by omega)] at h2
      obtain ⟨i, hi, h0⟩ := tk_free (L := L) n (by omega)
      exact ⟨i, by omega, h0⟩
/-- Who may have one more finds one. -/
theorem Good.free {n : Nat} {L : Nat → Nat} {T : Nat → Ten} (h : Good n L T) {t : Int} (hi : isIn T t = true) (hr : roomE n T (T t.toNat) = 0) : ∃ i, i < n ∧ L i = 0 := by
  obtain ⟨h1, h8, _, hon⟩ := isIn_pos hi
  obtain ⟨hq, hs⟩ := roomE_zero hr
  refine tk_free n ?_
  have hsum := (h.sums 9).1
  have hf := h.fits
  have ht := h.taken
  rcases hs with hs | hs
  · -- charges below parts
    have hp := sumP_all T (but := t.toNat) 9
    rw [if_pos (by omega), part_on hon] at hp
    have hc : ∀ k, sumC T k ≤ sumP T t.toNat k + (if t.toNat < k then (T t.toNat).c else 0) := by
      intro k
      induction k with
      | zero => exact Nat.le_refl _
      | succ k ih =>
        unfold sumC sumP
        by_cases e : k = t.toNat
        · subst e
          rw [if_pos rfl, if_pos (Nat.lt_succ_self _)]
          rw [if_neg (Nat.lt_irrefl _)] at ih
          omega
        · rw [if_neg e]
          have hk : (T k).c ≤ (T k).part := by
            by_cases ho : (T k).on = true
            · rw [part_on ho]; omega
            · rw [h.off k (by simpa using ho)]; exact Nat.le_refl _
          by_cases hb : t.toNat < k
          · rw [if_pos hb] at ih; rw [if_pos (by omega)]; omega
          · rw [if_neg hb] at ih; rw [if_neg (by omega)]; omega
    have := hc 9
    rw [if_pos (by omega)] at this
    omega
  · omega
theorem holdRes_lt {n : Nat} {L : Nat → Nat} {e : Nat} (h : e < n) : holdRes n L e = if L e = 2147483647 then 5 else 0 := by
  unfold holdRes
  rw [if_neg (by omega), Int.toNat_natCast]
theorem Good.claim {n : Nat} {L : Nat → Nat} {T : Nat → Ten} (h : Good n L T) (t : Int) (e : Nat) : Good n (claimL n L T t e) (claimT n L T t e) := by
  unfold claimL claimT
  by_cases hE : claimE n L T t e = 0
  · rw [if_pos hE]
    unfold claimE at hE
    split at hE
    · omega
    · split at hE
      · omega
      · split at hE
        · rename_i h1 h2 h3
          rw [if_neg (by omega)]
          exact h.like (by omega) (by omega)
        · rename_i h1 h2 h3
          have h0 : L e = 0 := by omega
          rw [if_pos ⟨by unfold claimE; rw [if_neg h1, if_neg h2, if_neg h3]; exact hE, h0⟩, h0]
          exact h.bump (by simpa using h2) hE (by omega) h0
  · rw [if_neg hE, if_neg (fun e => hE e.1)]; exact h
theorem Good.hold1 {n : Nat} {L : Nat → Nat} {T : Nat → Ten} (h : Good n L T) (e : Nat) : Good n (hold1L n L e) T := by
  unfold hold1L
  by_cases hE : hold1E n L e = 0
  · rw [if_pos hE]
    unfold hold1E at hE
    split at hE
    · omega
    · split at hE
      · omega
      · exact h.like (by omega) (by omega)
  · rw [if_neg hE]; exact h
theorem Good.drop {n : Nat} {L : Nat → Nat} {T : Nat → Ten} (h : Good n L T) (t : Int) (e : Nat) : Good n (dropL1 n L T t e) (dropT n L T t e) := by
  unfold dropL1 dropT
  by_cases hE : dropE n L T t e = 0
  · rw [if_pos hE]
    have hE' := hE
    unfold dropE at hE
    split at hE
    · omega
    · split at hE
      · omega
      · split at hE
        · omega
        · rename_i h1 h2 h3
          by_cases e1 : L e = 1
          · rw [if_pos ⟨hE', e1⟩, e1]
            exact h.less (by simpa using h2) (fun q => h3 (.inr q)) (by omega) e1
          · rw [if_neg (fun q => e1 q.2)]
            exact h.like (by omega) (by omega)
  · rw [if_neg hE, if_neg (fun e => hE e.1)]; exact h
end Go.Proofs.YtjhfoddhpmmjoaaDoor
