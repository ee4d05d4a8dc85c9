/-
  disk: New, Size, ask, there, at, Read. Condition: the disk's blocks are its own.
-/
import Derived.Test.YtjhfoddhpmmjoaaDoorQDisk
import Derived.Great.Ranges
namespace Go.Proofs.YtjhfoddhpmmjoaaDoor
set_option maxRecDepth 100000
open Go.RowKit Go.Maps

def noughts512 : List Nat := List.replicate 512 0
theorem noughts512_length : noughts512.length = 512 := by simp [noughts512]
theorem noughts512_small : ∀ x ∈ noughts512, x < 256 := by intro x hx; have := (List.mem_replicate.1 hx).2; omega
/-- What a sector shows. -/
def Dk.look (D : Dk) (s : Nat) : List Nat := (D.shown s).getD noughts512
def Dk.askE (D : Dk) : Int := if D.down = true then 30 else 0
def Dk.thereE (D : Dk) (s : Nat) : Int := if D.n ≤ s then 31 else 0
def Dk.readE (D : Dk) (s : Nat) : Int := if D.down = true then 30 else if D.n ≤ s then 31 else 0
section
variable {w w' : World} {F G : Nat → Prop} {b : Nat} {D : Dk}
theorem DiskP.c0 {ms mh : Nat} {wv : Value} (h : DiskP w F b ms mh wv D) : w.cell? ⟨b, 0, none⟩ = some (.int .i64 (D.n : Int)) := h.row.cell (i := 0) (by decide)
theorem DiskP.c1 {ms mh : Nat} {wv : Value} (h : DiskP w F b ms mh wv D) : w.cell? ⟨b, 1, none⟩ = some (.map (some ms)) := h.row.cell (i := 1) (by decide)
theorem DiskP.c2 {ms mh : Nat} {wv : Value} (h : DiskP w F b ms mh wv D) : w.cell? ⟨b, 2, none⟩ = some (.map (some mh)) := h.row.cell (i := 2) (by decide)
theorem DiskP.c3 {ms mh : Nat} {wv : Value} (h : DiskP w F b ms mh wv D) : w.cell? ⟨b, 3, none⟩ = some wv := h.row.cell (i := 3) (by decide)
theorem DiskP.c68 {ms mh : Nat} {wv : Value} (h : DiskP w F b ms mh wv D) : w.cell? ⟨b, 68, none⟩ = some (.int .i64 (D.calls : Int)) := h.row.cell (i := 68) (by decide)
theorem DiskP.c69 {ms mh : Nat} {wv : Value} (h : DiskP w F b ms mh wv D) : w.cell? ⟨b, 69, none⟩ = some (.bool D.plan) := h.row.cell (i := 69) (by decide)
theorem DiskP.c70 {ms mh : Nat} {wv : Value} (h : DiskP w F b ms mh wv D) : w.cell? ⟨b, 70, none⟩ = some (.int .i64 (D.left : Int)) := h.row.cell (i := 70) (by decide)
theorem DiskP.c71 {ms mh : Nat} {wv : Value} (h : DiskP w F b ms mh wv D) : w.cell? ⟨b, 71, none⟩ = some (.bool D.down) := h.row.cell (i := 71) (by decide)
set_option maxRecDepth 100000 in
theorem dsize_any (h : DiskAt w F b D) : Calls Tryd.prog 66 #[.pointer (some ⟨b, 0, none⟩)] w fun e w' => e = .returned (.int .i64 (D.n : Int)) ∧ w = w' := by
  obtain ⟨ms, mh, wv, h⟩ := h
  have c0 := h.c0
  replace h := Lib.hid h
  go_enter Tryd.func66, Tryd.ntmps66
  go_wp2_with fail
  go_ret
  exact ⟨rfl, rfl⟩
set_option maxRecDepth 100000 in
theorem dsize_nil (w : World) : Calls Tryd.prog 66 #[.pointer none] w fun e w' => e = .returned (.int .i64 0) ∧ w = w' := by
  go_enter Tryd.func66, Tryd.ntmps66
  go_wp2_with fail
  go_ret
  exact ⟨rfl, rfl⟩
set_option maxRecDepth 100000 in
theorem dask_any (h : DiskAt w F b D) : Calls Tryd.prog 78 #[.pointer (some ⟨b, 0, none⟩)] w fun e w' => e = .returned (.int .i64 D.askE) ∧ w = w' := by
  have cs := Lib.hid (dsize_any h)
  obtain ⟨ms, mh, wv, h⟩ := h
  have c := h.c71
  have hlo := h.lo
  unfold Dk.askE
  generalize D.down = d at *
  generalize D.n = n at *
  have d0 : ((n : Int) == 0) = false := by simp; omega
  have d1 : ¬ (n : Int) = 0 := by omega
  replace h := Lib.hid h
  cases d with
  | true =>
    rw [if_pos rfl]
    go_enter Tryd.func78, Tryd.ntmps78
    go_wp2_with fail
    refine cs.out.mono ?_
    rintro e _ ⟨rfl, rfl⟩
    go_wp2_with fail
    go_ret
    exact ⟨rfl, rfl⟩
  | false =>
    rw [if_neg (by decide)]
    go_enter Tryd.func78, Tryd.ntmps78
    go_wp2_with fail
    refine cs.out.mono ?_
    rintro e _ ⟨rfl, rfl⟩
    go_wp2_with fail
    go_ret
    exact ⟨rfl, rfl⟩
set_option maxRecDepth 100000 in
theorem dthere_any (h : DiskAt w F b D) (s : Nat) (hs : s < 4294967296) : Calls Tryd.prog 71 #[.pointer (some ⟨b, 0, none⟩), .int .u32 (s : Int)] w fun e w' => e = .returned (.int .i64 (D.thereE s)) ∧ w = w' := by
  have cs := Lib.hid (dsize_any h)
  obtain ⟨ms, mh, wv, h⟩ := h
  have c := h.c0
  have hlo := h.lo
  have hhi := h.hi
  unfold Dk.thereE
  generalize D.n = n at *
  have d0 : ((n : Int) == 0) = false := by simp; omega
  have d1 : ¬ (n : Int) = 0 := by omega
  have w1 : IntKind.i64.wrap (s : Int) = (s : Int) := IntWalk.i64_in _ (by omega)
  replace h := Lib.hid h
  by_cases hns : n ≤ s
  · rw [if_pos hns]
    have d2 : decide ((s : Int) ≥ (n : Int)) = true := decide_eq_true (by omega)
    go_enter Tryd.func71, Tryd.ntmps71
    go_wp2_with fail
    refine cs.out.mono ?_
    rintro e _ ⟨rfl, rfl⟩
    go_wp2_with fail
    go_ret
    exact ⟨rfl, rfl⟩
  · rw [if_neg hns]
    have d2 : decide ((s : Int) ≥ (n : Int)) = false := decide_eq_false (by omega)
    go_enter Tryd.func71, Tryd.ntmps71
    go_wp2_with fail
    refine cs.out.mono ?_
    rintro e _ ⟨rfl, rfl⟩
    go_wp2_with fail
    go_ret
    exact ⟨rfl, rfl⟩
set_option maxRecDepth 100000 in
theorem dat_any {mb : Nat} {M : Nat → Option (List Nat)} (h : SecMap w F mb M) (s : Nat) (hs : s < 4294967296) :
    Calls Tryd.prog 83 #[.map (some mb), .int .u32 (s : Int)] w fun e w' => ∃ v, e = .returned v ∧ Own w' w.heap.size 5 v (u8l ((M s).getD noughts512)) ∧ Below w.heap.size w w' ∧ ∃ g cap, v = .slice (some ⟨g, 0, none⟩) 512 cap := by
  obtain ⟨v, hv, hc⟩ := h.look hs
  have hmk : ∀ x, (Instr.makeSlice 85 (.int .i64 512) (.int .i64 512)).run Tryd.prog x = .ok (.slice (some ⟨x.heap.size, 0, none⟩) 512 512) (x.alloc (.cells (u8s noughts512) 5)) := run_make_u8 512 512 (Nat.le_refl _) (by decide)
  rcases hc with ⟨hM, rfl⟩ | ⟨t, g, cap, hM, hl, rfl, ho⟩
  · rw [hM]
    have row : ∀ wx : World, Own (wx.alloc (.cells (u8s noughts512) 5)) wx.heap.size 5 (.slice (some ⟨wx.heap.size, 0, none⟩) 512 512) (u8l noughts512) := fun wx => by
      have e : (u8l noughts512).length = 512 := by simp [u8l, noughts512]
      have := Own.made (w := wx.alloc (.cells (u8s noughts512) 5)) (base := wx.heap.size) (b := wx.heap.size) (e := 5) (xs := u8l noughts512) (by rw [heap_alloc_new]; rfl) (Nat.le_refl _) (by rw [e]; simp [maxLen])
      rwa [e] at this
    replace h := Lib.hid h
    replace row := Lib.hid row
    replace hM := Lib.hid hM
    go_enter Tryd.func83, Tryd.ntmps83
    go_wp2_with fail
    go_ret
    exact ⟨_, rfl, row.out w, (Below.refl _ _).alloc (Nat.le_refl _) _, _, _, rfl⟩
  · rw [hM]
    have cc := Lib.hid (clone_any w (.slice (some ⟨g, 0, none⟩) 512 cap) t ho.text (by omega))
    replace h := Lib.hid h
    replace hM := Lib.hid hM
    replace ho := Lib.hid ho
    replace hl := Lib.hid hl
    go_enter Tryd.func83, Tryd.ntmps83
    go_wp2_with fail
    refine cc.out.mono ?_
    rintro e w' ⟨v', rfl, o', B'⟩
    obtain ⟨ao, c2, e2, _, _, _, _, e7⟩ := o'.form
    have e1 : (u8l t).length = 512 := by simp [u8l, hl.out]
    rw [e1] at e2
    obtain ⟨g2, e3, _⟩ := e7 0 _ (List.getElem?_eq_getElem (show 0 < (u8l t).length by omega))
    subst e3 e2
    replace o' := Lib.hid o'
    replace B' := Lib.hid B'
    go_wp2_with fail
    go_ret
    exact ⟨_, rfl, o'.out, B'.out, _, _, rfl⟩
def ReadSays (D : Dk) (s : Nat) (w : World) (e : Ending) (w' : World) : Prop :=
  (D.readE s = 0 ∧ ∃ g cap, e = .returned (.tuple #[.slice (some ⟨g, 0, none⟩) 512 cap, .int .i64 0]) ∧ Own w' w.heap.size 5 (.slice (some ⟨g, 0, none⟩) 512 cap) (u8l (D.look s)) ∧ Below w.heap.size w w') ∨
  (D.readE s ≠ 0 ∧ e = .returned (.tuple #[.slice none 0 0, .int .i64 (D.readE s)]) ∧ w = w')
set_option maxRecDepth 100000 in
theorem dread_any (h : DiskAt w F b D) (s : Nat) (hs : s < 4294967296) : Calls Tryd.prog 65 #[.pointer (some ⟨b, 0, none⟩), .int .u32 (s : Int)] w (ReadSays D s w) := by
  have ca := dask_any h
  have ct := dthere_any h s hs
  obtain ⟨ms, mh, wv, h⟩ := h
  have c2 := h.c2
  have cx := Lib.hid (dat_any h.shown s hs)
  unfold ReadSays Dk.readE Dk.look
  unfold Dk.askE at ca
  unfold Dk.thereE at ct
  generalize (D.shown s).getD noughts512 = t at *
  generalize D.n = n at *
  cases hd : D.down with
  | true =>
    rw [hd, if_pos rfl] at ca
    replace h := Lib.hid h
    replace hd := Lib.hid hd
    replace ct := Lib.hid ct
    go_enter Tryd.func65, Tryd.ntmps65
    go_wp2_with fail
    refine ca.mono ?_
    rintro e _ ⟨rfl, rfl⟩
    go_wp2_with fail
    go_ret2
    exact ⟨rfl, rfl⟩
  | false =>
    rw [hd, if_neg (by decide)] at ca
    by_cases hns : n ≤ s
    · rw [if_pos hns] at ct
      replace h := Lib.hid h
      replace hd := Lib.hid hd
      replace ca := Lib.hid ca
      replace ct := Lib.hid ct
      go_enter Tryd.func65, Tryd.ntmps65
      go_wp2_with fail
      refine ca.out.mono ?_
      rintro e _ ⟨rfl, rfl⟩
      go_wp2_with fail
      refine ct.out.mono ?_
      rintro e _ ⟨rfl, rfl⟩
      go_wp2_with fail
      go_ret2
      exact ⟨rfl, rfl⟩
    · rw [if_neg hns] at ct
      replace h := Lib.hid h
      replace hd := Lib.hid hd
      replace ca := Lib.hid ca
      replace ct := Lib.hid ct
      go_enter Tryd.func65, Tryd.ntmps65
      go_wp2_with fail
      refine ca.out.mono ?_
      rintro e _ ⟨rfl, rfl⟩
      go_wp2_with fail
      refine ct.out.mono ?_
      rintro e _ ⟨rfl, rfl⟩
      go_wp2_with fail
      refine cx.out.mono ?_
      rintro e w' ⟨v, rfl, o', B', g, cap, rfl⟩
      replace o' := Lib.hid o'
      replace B' := Lib.hid B'
      go_wp2_with fail
      go_ret2
      exact ⟨g, cap, rfl, o'.out, B'.out⟩
end
def zeroDisk : Nat → Value := fun i =>
  if i = 0 then .int .i64 0 else if i = 1 then .map none else if i = 2 then .map none else if i = 3 then .slice none 0 0 else if i < 68 then .int .u8 0 else if i = 68 then .int .i64 0 else if i = 69 then .bool false else if i = 70 then .int .i64 0 else .bool false
theorem zeroDisk_all : (List.range 72).map (fun i => Tryd.zeroCells126[i]?) = (List.range 72).map (fun i => some (zeroDisk i)) := by kernel_rfl
theorem zeroDisk_get {i : Nat} (h : i < 72) : Tryd.zeroCells126[i]? = some (zeroDisk i) := by
  have := congrArg (fun l => l[i]?) zeroDisk_all
  simpa [h] using this
theorem zeroDisk_size : Tryd.zeroCells126.size = 72 := by kernel_rfl
theorem newDisk_get {n ms mh i : Nat} (h : i < 72) : (((Tryd.zeroCells126.setIfInBounds 0 (.int .i64 (n : Int))).setIfInBounds 1 (.map (some ms))).setIfInBounds 2 (.map (some mh)))[i]? = some (diskF (Dk.new n) ms mh (.slice none 0 0) i) := by
  have hz := zeroDisk_size
  rw [Array.getElem?_setIfInBounds, Array.getElem?_setIfInBounds, Array.getElem?_setIfInBounds, zeroDisk_get h]
  simp only [Array.size_setIfInBounds, hz]
  by_cases h0 : i = 0
  · subst h0; rfl
  · by_cases h1 : i = 1
    · subst h1; rfl
    · by_cases h2 : i = 2
      · subst h2; rfl
      · rw [if_neg (fun e => h2 e.symm), if_neg (fun e => h1 e.symm), if_neg (fun e => h0 e.symm)]
        unfold diskF zeroDisk
        rw [if_neg h0, if_neg h1, if_neg h2, if_neg h0, if_neg h1, if_neg h2]
        rfl
set_option maxRecDepth 100000 in
theorem dnew_any (w : World) (n : Nat) (h1 : 1 ≤ n) (h2 : n ≤ 65536) : Calls Tryd.prog 68 #[.int .i64 (n : Int)] w fun e w' => ∃ b, e = .returned (.tuple #[.pointer (some ⟨b, 0, none⟩), .int .i64 0]) ∧ DiskAt w' (fun k => w.heap.size ≤ k) b (Dk.new n) ∧ Below w.heap.size w w' := by
  have hmm := @run_makeMap Tryd.prog
  have d1 : decide ((n : Int) < 1) = false := decide_eq_false (by omega)
  have d2 : decide ((n : Int) > 65536) = false := decide_eq_false (by omega)
  go_enter Tryd.func68, Tryd.ntmps68
  go_wp2_with fail
  go_ret2
  have hB : Below w.heap.size w (((w.alloc (.map #[] 0)).alloc (.map #[] 0)).alloc (.cells (((Tryd.zeroCells126.setIfInBounds 0 (.int .i64 (n : Int))).setIfInBounds 1 (.map (some w.heap.size))).setIfInBounds 2 (.map (some (w.heap.size + 1)))) 126)) :=
    (((Below.refl _ _).alloc (Nat.le_refl _) _).alloc (by simp) _).alloc (by simp; omega) _
  have m1 : (((w.alloc (.map #[] 0)).alloc (.map #[] 0)).alloc (.cells (((Tryd.zeroCells126.setIfInBounds 0 (.int .i64 (n : Int))).setIfInBounds 1 (.map (some w.heap.size))).setIfInBounds 2 (.map (some (w.heap.size + 1)))) 126)).heap[w.heap.size]? = some (.map #[] 0) := by
    rw [heap_alloc_old (h := by simp; omega), heap_alloc_old (h := by simp)]; exact heap_alloc_new _ _
  have m2 : (((w.alloc (.map #[] 0)).alloc (.map #[] 0)).alloc (.cells (((Tryd.zeroCells126.setIfInBounds 0 (.int .i64 (n : Int))).setIfInBounds 1 (.map (some w.heap.size))).setIfInBounds 2 (.map (some (w.heap.size + 1)))) 126)).heap[w.heap.size + 1]? = some (.map #[] 0) := by
    rw [heap_alloc_old (h := by simp), show w.heap.size + 1 = (w.alloc (.map #[] 0)).heap.size by simp]; exact heap_alloc_new _ _
  have hr := World.rowIs_alloc ((w.alloc (.map #[] 0)).alloc (.map #[] 0)) (((Tryd.zeroCells126.setIfInBounds 0 (.int .i64 (n : Int))).setIfInBounds 1 (.map (some w.heap.size))).setIfInBounds 2 (.map (some (w.heap.size + 1)))) 126
    (diskF (Dk.new n) w.heap.size (w.heap.size + 1) (.slice none 0 0)) (fun i hi => newDisk_get (by rw [Array.size_setIfInBounds, Array.size_setIfInBounds, Array.size_setIfInBounds, zeroDisk_size] at hi; exact hi))
  have e72 : (((Tryd.zeroCells126.setIfInBounds 0 (.int .i64 (n : Int))).setIfInBounds 1 (.map (some w.heap.size))).setIfInBounds 2 (.map (some (w.heap.size + 1)))).size = 72 := by simp
  have es : ((w.alloc (.map #[] 0)).alloc (.map #[] 0)).heap.size = w.heap.size + 1 + 1 := by simp
  rw [e72, es] at hr
  have hsec : ∀ {wx : World} {mb : Nat}, w.heap.size ≤ mb → wx.heap[mb]? = some (.map #[] 0) → SecMap wx (fun k => w.heap.size ≤ k) mb (fun _ => none) := fun hmb hm =>
    ⟨0, _, MapF.empty hm, fun key v hc => by simp at hc, fun s t hM => by simp at hM, hmb⟩
  exact ⟨_, rfl, ⟨_, _, _, hr, by omega, hsec (Nat.le_refl _) m1, hsec (by omega) m2, by omega, waits_nil _ _, h1, h2⟩, hB⟩
end Go.Proofs.YtjhfoddhpmmjoaaDoor
