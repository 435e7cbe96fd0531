/-
  Contract of the library's Insert of one sun. Conditions: lengths up to 2^20.
-/
import Derived.Test.YtajmebclmippeaaPsC
import Derived.Lib.Overlaps
import Derived.Lib.AppendZerosOnto
import Derived.Laws.Externs
import Derived.Deep.RegionLaw
namespace Go.Proofs.Ytajmebclmippeaa
open Go.RowKit

/-- The cells of a new sun. -/
def newR (t x : Int) : Nat → Value := fun j => if j = 0 then .int .i64 t else .int .i64 x
theorem newR_row (t x : Int) : rowL (fun _ j => newR t x j) 1 2 = [.int .i64 t, .int .i64 x] := rfl
theorem sizes_sun : (Try.prog.info? 55).map (·.size) = some 2 := by kernel_rfl
theorem size_sun (w : World) : (Go.sizeOf 55).run Try.prog w = .ok 2 w := by
  obtain ⟨i0, hi, hz0, hz1, hz2⟩ := info_parts info_sun
  simp [sizeOf, typeInfo, hi, hz1]
theorem below_grown {w w' : World} {g B : Nat} (h : w.grownBy w' (some g)) (hg : B ≤ g) (hB : B ≤ w.heap.size) : Below B w w' :=
  ⟨h.os, h.tape, h.output, h.size, fun k hk => h.block k (Nat.lt_of_lt_of_le hk hB) (by intro e; injection e with e; omega)⟩
/-- What an insertion leaves. -/
def InsP (base n : Nat) (F : Nat → Nat → Int) (i : Nat) (t x : Int) (w : World) (e : Ending) (w' : World) : Prop :=
  ∃ v', e = .returned v' ∧ w'.ownsRow base 55 2 v' (n + 1) (rowL (insR (ints F) i (newR t x)) (n + 1) 2) ∧ Below base w w'
set_option maxRecDepth 20000 in
set_option maxHeartbeats 2000000 in
theorem insS_end (base n vb : Nat) (v : Value) (F : Nat → Nat → Int) (t x : Int) (w : World) (hn : n ≤ 1048576) (hB : base ≤ w.heap.size) (ho : w.ownsRow base 55 2 v n (rowL (ints F) n 2)) (hv : w.heap[vb]? = some (.cells #[.int .i64 t, .int .i64 x] 55 (0, 0))) :
    Calls Try.prog 86 #[v, .int .i64 n, .slice (some ⟨vb, 0, none⟩) 1 1] w (InsP base n F n t x w) := by
  obtain ⟨i0, hi0, hz0, hz1, hz2⟩ := info_parts info_sun
  obtain ⟨G, cc, rfl, hnc, hG⟩ := own_form ho
  have hnw : ∀ j u, [Value.int .i64 t, .int .i64 x][j]? = some u → w.cell? ((⟨vb, 0, none⟩ : Addr).add j) = some u := World.news_of_block (cs := #[.int .i64 t, .int .i64 x]) (t := 55) (fr := (0, 0)) hv
  have HR := hide (show rowL (ints F) n 2 ++ [.int .i64 t, .int .i64 x] = rowL (insR (ints F) n (newR t x)) (n + 1) 2 by
    rw [← rowL_ins _ _ _ _ _ (by decide) (Nat.le_refl n), newR_row, List.take_of_length_le (by simp [rowL]), List.drop_eq_nil_of_le (by simp [rowL]), List.append_nil])
  have hd : decide ((0 : Int) ≤ (n : Int)) = true := by simp
  have hd2 : decide ((n : Int) ≤ (cc : Int)) = true := by simp; omega
  go_enter Try.func86, Try.ntmps86
  go_wp2_with (at_builtin; refine wpList_append_own_at _ rfl (.tmp 23) (.tmp 24) 25 rfl base 55 i0 _ 2 16 Try.underlying25 hi0 hz0 hz1 hz2 rfl (by decide) _ n _ rfl ho ⟨vb, 0, none⟩ 1 1 [.int .i64 t, .int .i64 x] rfl rfl hnw (by simp [Value.oneCell']) (by simp only [maxLen]; omega) (by omega) hB ?_; intro v5 w5 hown5 hg5 _ _)
  all_goals
    have hb5 := grown_below ho hg5 hB
    rw [HR.out] at hown5
    go_ret
    exact ⟨_, rfl, hown5, hb5⟩
set_option maxRecDepth 20000 in
set_option maxHeartbeats 1000000 in
theorem insS_room (base n vb g cc i : Nat) (F : Nat → Nat → Int) (t x : Int) (w : World) (hn : n ≤ 1048576) (hi : i < n) (hr : n + 1 ≤ cc) (hB : base ≤ w.heap.size) (ho : w.ownsRow base 55 2 (.slice (some ⟨g, 0, none⟩) n cc) n (rowL (ints F) n 2)) (hv : w.heap[vb]? = some (.cells #[.int .i64 t, .int .i64 x] 55 (0, 0))) (hne : vb ≠ g) :
    Calls Try.prog 86 #[.slice (some ⟨g, 0, none⟩) n cc, .int .i64 i, .slice (some ⟨vb, 0, none⟩) 1 1] w (InsP base n F i t x w) := by
  obtain ⟨i0, hi0, hz0, hz1, hz2⟩ := info_parts info_sun
  have hnw : ∀ j u, [Value.int .i64 t, .int .i64 x][j]? = some u → w.cell? ((⟨vb, 0, none⟩ : Addr).add j) = some u := World.news_of_block (cs := #[.int .i64 t, .int .i64 x]) (t := 55) (fr := (0, 0)) hv
  have HR := hide (rowL_ins (ints F) n 2 i (newR t x) (by decide) (by omega))
  have hxl : (rowL (ints F) n 2).length = n * 2 := rowL_len _ _ _
  have hx1 : ∀ u ∈ rowL (ints F) n 2, u.oneCell' = true := rowL_one fun _ _ _ _ => rfl
  obtain ⟨L, hg, hcm, hLl, hLt⟩ : ∃ L : List Value, w.heap[g]? = some (.cells L.toArray 55 (0, 0)) ∧ cc ≤ maxLen ∧ L.length = cc * 2 ∧ L.take (n * 2) = rowL (ints F) n 2 := by
    rcases ho.2 with ⟨e, -⟩ | ⟨g', c', cur, e, -, h2, -, h4, h5, h6⟩
    · cases e
    · injection e with e1 e2 e3
      injection e1 with e1; injection e1 with e1
      subst e1 e3
      exact ⟨cur.toList, by simpa using h2, h4, by simpa using h5, h6⟩
  have hbg := (ho.lt g rfl).1
  have hcc : cc ≤ 9223372036854775807 := by simpa [maxLen] using hcm
  have hsa : w.shape? vb = some (55, 2) := by simp [World.shape?, hv]
  have hsb : w.shape? g = some (55, cc * 2) := by simp [World.shape?, hg, hLl]
  have hov : ∀ o lb cb, (callFunc 93 #[.slice (some ⟨vb, 0, none⟩) 1 1, .slice (some ⟨g, o, none⟩) lb cb]).run Try.prog w = .ok (.value (.bool false)) w := fun o lb cb => by
    rw [run_callFunc_extern Try.func93 (by kernel_rfl) (by kernel_rfl) (by kernel_rfl) (e := Extern.SlicesOverlaps.overlaps #[25, 25] #[4]) (by kernel_rfl),
      Lib.run_overlaps_apart w 25 4 55 Try.underlying25 2 size_sun ⟨vb, 0, none⟩ ⟨g, o, none⟩ 1 1 lb cb hne 55 55 2 (cc * 2) hsa hsb (by omega) (by simp [World.frozen?, hv]) (by simp [World.frozen?, hv])]
    rfl
  have hz2' : ((i : Int) == (n : Int)) = false := by simp; omega
  have hb2 : ¬ (cc = i + 1) := by omega
  have hb4 : ¬ (cc = i) := by omega
  have hdl : ((rowL (ints F) n 2).drop (i * 2)).length = (n - i) * 2 := by rw [List.length_drop, hxl, Nat.sub_mul]
  have h1len : ((rowL (ints F) n 2).drop (i * 2)).length = Nat.min (n + 1 - i) (n + 1 - (i + 1)) * 2 := by
    rw [hdl, show Nat.min (n + 1 - i) (n + 1 - (i + 1)) = n - i by simp only [Nat.min_def]; split <;> omega]
  have h1one : ∀ v ∈ (rowL (ints F) n 2).drop (i * 2), v.oneCell' = true := fun v hv => hx1 v (List.mem_of_mem_drop hv)
  have h1fit : (i + 1) * 2 + ((rowL (ints F) n 2).drop (i * 2)).length ≤ L.length := by rw [hdl, hLl]; omega
  have h1src : ∀ j v, ((rowL (ints F) n 2).drop (i * 2))[j]? = some v → w.drew.cell? ((⟨g, i * 2, none⟩ : Addr).add j) = some v := fun j v hj => by
    rw [cells_add]
    rw [List.getElem?_drop] at hj
    have hlt : i * 2 + j < n * 2 := by have := (List.getElem?_eq_some_iff.1 hj).1; rwa [hxl] at this
    exact (ho.cellAt _ hlt).trans hj
  have hw1 : IntKind.i64.wrap ((i : Int) + 1) = (i : Int) + 1 := by rw [IntKind.wrap_i64]; omega
  have hb1 : (0 : Int) ≤ (i : Int) + 1 := by omega
  have hin : i ≤ n := by omega
  have htn : ((i : Int) + 1).toNat = i + 1 := by omega
  have hb3 : (i : Int) ≤ (n : Int) + 1 := by omega
  have hb5 : (i : Int) + 1 ≤ (n : Int) + 1 := by omega
  go_enter Try.func86, Try.ntmps86
  go_wp2_with (simp only [hov])
  go_region_law ((refine step_copy_rowS rfl _ _ 25 25 rfl 55 2 Try.underlying25 sizes_sun g ((i + 1) * 2) (n + 1 - (i + 1)) (cc - (i + 1)) ⟨g, i * 2, none⟩ (n + 1 - i) (cc - i) (by simp [Act.eval, Act.put]) (by simp [Act.eval, Act.put]) L _ hg ((rowL (ints F) n 2).drop (i * 2)) h1len h1src h1fit h1one ?_); intro uu w3 hg3 hgr3; have HG3 := hide hg3; clear hg3)
  have h2src : ∀ j v, [Value.int .i64 t, Value.int .i64 x][j]? = some v → w3.cell? ((⟨vb, 0, none⟩ : Addr).add j) = some v := fun j v hj => by
    have h0 := hnw j v hj
    rw [cells_add] at h0 ⊢
    exact hgr3.cell (a := ⟨vb, 0 + j, none⟩) h0 (by intro e; injection e with e; exact hne e)
  have h2len : [Value.int .i64 t, Value.int .i64 x].length = Nat.min 1 (n + 1 - i) * 2 := by
    rw [show Nat.min 1 (n + 1 - i) = 1 by simp only [Nat.min_def]; split <;> omega]; rfl
  have h3l : (splice L ((i + 1) * 2) ((rowL (ints F) n 2).drop (i * 2))).length = cc * 2 := by rw [length_splice _ _ _ h1fit, hLl]
  have h2fit : i * 2 + [Value.int .i64 t, Value.int .i64 x].length ≤ (splice L ((i + 1) * 2) ((rowL (ints F) n 2).drop (i * 2))).length := by rw [h3l]; show i * 2 + 2 ≤ cc * 2; omega
  have h2one : ∀ v ∈ [Value.int .i64 t, Value.int .i64 x], v.oneCell' = true := by simp [Value.oneCell']
  have HSP := hide (splice_ins L (rowL (ints F) n 2) [Value.int .i64 t, Value.int .i64 x] (n * 2) (i * 2) 2 hLt (by rw [hLl]; omega) (by omega) rfl)
  have h4l := length_splice _ _ _ h2fit
  rw [h3l] at h4l
  have H4L := hide h4l
  clear h4l h1src h1fit h1len h1one hdl hLt
  go_wp2_with (refine wpList_copy_rowS rfl (.tmp 80) (.tmp 81) 25 25 rfl 55 2 Try.underlying25 sizes_sun g (i * 2) (n + 1 - i) (cc - i) ⟨vb, 0, none⟩ 1 1 rfl rfl _ _ HG3.out [Value.int .i64 t, Value.int .i64 x] h2len h2src h2fit h2one ?_; intro uu2 w4 hg4 hgr4; have HG4 := hide hg4; clear hg4)
  go_wp2
  go_ret
  refine ⟨_, rfl, ⟨rowL_len _ _ _, .inr ⟨g, cc, _, rfl, hbg, HG4.out, hr, hcm, ?_, ?_⟩⟩, ?_⟩
  · simpa using H4L.out
  · have e := HSP.out
    rw [show (i + 1) * 2 = i * 2 + 2 by omega, show (n + 1) * 2 = n * 2 + 2 by omega]
    rw [← HR.out, newR_row]
    simpa using e
  · exact ((Below.refl _ _).drew.trans (below_grown hgr3 hbg hB)).trans (below_grown hgr4 hbg (Nat.le_trans hB hgr3.size))
set_option maxRecDepth 20000 in
set_option maxHeartbeats 1000000 in
theorem insS_grow (base n vb g cc i : Nat) (F : Nat → Nat → Int) (t x : Int) (w : World) (hn : n ≤ 1048576) (hi : i < n) (hr : cc < n + 1) (hB : base ≤ w.heap.size) (ho : w.ownsRow base 55 2 (.slice (some ⟨g, 0, none⟩) n cc) n (rowL (ints F) n 2)) (hv : w.heap[vb]? = some (.cells #[.int .i64 t, .int .i64 x] 55 (0, 0))) (hvl : vb < w.heap.size) :
    Calls Try.prog 86 #[.slice (some ⟨g, 0, none⟩) n cc, .int .i64 i, .slice (some ⟨vb, 0, none⟩) 1 1] w (InsP base n F i t x w) := by
  obtain ⟨i0, hi0, hz0, hzs, hzb⟩ := info_parts info_sun
  have hnw : ∀ j u, [Value.int .i64 t, .int .i64 x][j]? = some u → w.cell? ((⟨vb, 0, none⟩ : Addr).add j) = some u := World.news_of_block (cs := #[.int .i64 t, .int .i64 x]) (t := 55) (fr := (0, 0)) hv
  have HR := hide (rowL_ins (ints F) n 2 i (newR t x) (by decide) (by omega))
  have hx1 : ∀ u ∈ rowL (ints F) n 2, u.oneCell' = true := rowL_one fun _ _ _ _ => rfl
  obtain ⟨xs, hxs⟩ : ∃ xs, rowL (ints F) n 2 = xs := ⟨_, rfl⟩
  have hxl : xs.length = n * 2 := by rw [← hxs]; exact rowL_len _ _ _
  rw [hxs] at HR ho hx1
  clear hxs
  have hgl := (ho.lt g rfl).2
  have hcs : ∀ j u, xs[j]? = some u → w.cell? ⟨g, j, none⟩ = some u := fun j u hj => (ho.cellAt j (by have := (List.getElem?_eq_some_iff.1 hj).1; rwa [hxl] at this)).trans hj
  obtain ⟨k0, hk0⟩ : ∃ k0, k0 = n + 1 - i := ⟨_, rfl⟩
  have hkk : (n : Int) + 1 - (i : Int) = (k0 : Int) := by omega
  have hik : i + k0 = n + 1 := by omega
  have hold : (Builtin.firstCells i0.size i (.slice (some ⟨g, 0, none⟩) i cc)).run Try.prog w.drew = .ok (xs.take (i * 2)).toArray w.drew := by
    rw [hzs]
    exact run_firstCells_some w.drew 2 i ⟨g, 0, none⟩ i cc (xs.take (i * 2)) (by rw [List.length_take]; omega) (fun j v hj => by
      rw [cells_add, Nat.zero_add]
      rw [List.getElem?_take] at hj
      split at hj
      · exact hcs j v hj
      · cases hj)
  obtain ⟨G, hG⟩ : ∃ G, G = grownCap w (n + 1) cc 55 := ⟨_, rfl⟩
  obtain ⟨R, hR⟩ : ∃ R : List Value, R = (xs.take (i * 2)) ++ ((Builtin.zeroCells (Value.agg #[.int .i64 0, .int .i64 0]).cells k0).toList ++ (Builtin.zeroCells (Value.agg #[.int .i64 0, .int .i64 0]).cells (G - (n + 1))).toList) := ⟨_, rfl⟩
  have hrz : ∀ ty, (Builtin.append_ #[25, 3] ty #[.slice (some ⟨g, 0, none⟩) i cc, .int .i64 ((n : Int) + 1 - (i : Int))]).run Try.prog w =
      .ok (.slice (some ⟨w.heap.size, 0, none⟩) (n + 1) G) (w.drew.alloc (.cells R.toArray 55)) := fun ty => by
    have h := Lib.run_append_grow_zeros w 25 3 ty 55 i0 _ .i64 .i64 Try.underlying25 Try.underlying3 hi0 hz0 (some ⟨g, 0, none⟩) i cc (xs.take (i * 2)) hold k0 (by omega) (by omega) (by omega) (by omega) (by rw [hzb]; omega) (by rw [hzb, hik]; exact growslice_fits hr (by omega))
    rw [hik, ← hG] at h
    rw [hkk, h, hR]
    congr 3
    simp
  have hGn : n + 1 ≤ G := by rw [hG]; exact grownCap_ge w _ _ _
  have hGm : G ≤ maxLen := by rw [hG]; exact grownCap_le_maxLen w (n + 1) cc 55 (by unfold maxLen; omega)
  have hG63 : G ≤ 9223372036854775807 := by simpa [maxLen] using hGm
  have hzl : ∀ q, (Builtin.zeroCells (Value.agg #[.int .i64 0, .int .i64 0]).cells q).toList.length = q * 2 := fun q => by simp [Builtin.zeroCells, Value.cells]
  have hRl : R.length = G * 2 := by
    rw [hR, List.length_append, List.length_append, hzl, hzl, List.length_take, hxl]
    omega
  have hRt : R.take (i * 2) = xs.take (i * 2) := by
    rw [hR, List.take_left' (by rw [List.length_take]; omega)]
  clear hR hG hold hkk hik hk0
  obtain ⟨W1, hW1⟩ : ∃ W1, w.drew.alloc (.cells R.toArray 55) = W1 := ⟨_, rfl⟩
  have hg1 : W1.heap[w.heap.size]? = some (.cells R.toArray 55 (0, 0)) := by rw [← hW1]; exact heap_alloc_new w.drew _
  have hb1 : Below w.heap.size w W1 := by rw [← hW1]; exact ((Below.refl _ _).drew).alloc (Nat.le_refl _) _
  have hs1 : w.heap.size < W1.heap.size := by rw [← hW1]; simp
  rw [hW1] at hrz
  clear hW1
  have HG1 := hide hg1
  clear hg1
  have h2src : ∀ j v, [Value.int .i64 t, Value.int .i64 x][j]? = some v → W1.cell? ((⟨vb, 0, none⟩ : Addr).add j) = some v := fun j v hj => by
    have h0 := hnw j v hj
    rw [cells_add] at h0 ⊢
    exact (hb1.cell (p := ⟨vb, 0 + j, none⟩) hvl).trans h0
  have h2len : [Value.int .i64 t, Value.int .i64 x].length = Nat.min 1 (n + 1 - i) * 2 := by
    rw [show Nat.min 1 (n + 1 - i) = 1 by simp only [Nat.min_def]; split <;> omega]; rfl
  have h2fit : i * 2 + [Value.int .i64 t, Value.int .i64 x].length ≤ R.length := by rw [hRl]; show i * 2 + 2 ≤ G * 2; omega
  have h2one : ∀ v ∈ [Value.int .i64 t, Value.int .i64 x], v.oneCell' = true := by simp [Value.oneCell']
  have hdl : (xs.drop (i * 2)).length = (n - i) * 2 := by rw [List.length_drop, hxl, Nat.sub_mul]
  have h1len : (xs.drop (i * 2)).length = Nat.min (n - i) (n + 1 - (i + 1)) * 2 := by
    rw [hdl, show Nat.min (n - i) (n + 1 - (i + 1)) = n - i by simp only [Nat.min_def]; split <;> omega]
  have h1one : ∀ v ∈ xs.drop (i * 2), v.oneCell' = true := fun v hv => hx1 v (List.mem_of_mem_drop hv)
  have h3l : (splice R (i * 2) [Value.int .i64 t, Value.int .i64 x]).length = G * 2 := by rw [length_splice _ _ _ h2fit, hRl]
  have h1fit : (i + 1) * 2 + (xs.drop (i * 2)).length ≤ (splice R (i * 2) [Value.int .i64 t, Value.int .i64 x]).length := by rw [hdl, h3l]; omega
  have h4l := length_splice _ _ _ h1fit
  rw [h3l] at h4l
  have H4L := hide h4l
  have HSP := hide (splice_grow R [Value.int .i64 t, Value.int .i64 x] (xs.drop (i * 2)) (i * 2) 2 ((n - i) * 2) (by rw [hRl]; omega) rfl hdl)
  have HRT := hide hRt
  clear h4l hRt
  have hz2' : ((i : Int) == (n : Int)) = false := by simp; omega
  have hz3 : (cc : Int) < (n : Int) + 1 := by omega
  have hGi : ¬ (G = i) := by omega
  have hGim : ¬ (G = i + 1) := by omega
  have hnc : n ≤ cc := by
    rcases ho.2 with ⟨e, -⟩ | ⟨g', c', cur, e, -, -, h3, -⟩
    · cases e
    · injection e with e1 e2 e3
      omega
  have hci : ¬ (cc = i) := by omega
  have hw1 : IntKind.i64.wrap ((i : Int) + 1) = (i : Int) + 1 := by rw [IntKind.wrap_i64]; omega
  have hb1' : (0 : Int) ≤ (i : Int) + 1 := by omega
  have hin : i ≤ n := by omega
  have htn : ((i : Int) + 1).toNat = i + 1 := by omega
  have hb3 : (i : Int) ≤ (n : Int) := by omega
  have hb4 : (i : Int) ≤ (n : Int) + 1 := by omega
  have hb5 : (i : Int) + 1 ≤ (n : Int) + 1 := by omega
  have hic : (i : Int) ≤ (cc : Int) := by omega
  go_enter Try.func86, Try.ntmps86
  go_wp2_with (first
    | (at_builtin; refine Lib.wpList_append_run _ rfl _ _ _ _ rfl _ _ rfl rfl _ _ (hrz _) ?_)
    | (refine wpList_copy_rowS rfl (.tmp 43) (.tmp 44) 25 25 rfl 55 2 Try.underlying25 sizes_sun w.heap.size (i * 2) (n + 1 - i) (G - i) ⟨vb, 0, none⟩ 1 1 rfl rfl _ _ HG1.out [Value.int .i64 t, Value.int .i64 x] h2len h2src h2fit h2one ?_; intro uu2 w4 hg4 hgr4; have HG4 := hide hg4; clear hg4))
  have h1src : ∀ j v, (xs.drop (i * 2))[j]? = some v → w4.drew.cell? ((⟨g, i * 2, none⟩ : Addr).add j) = some v := fun j v hj => by
    rw [cells_add]
    rw [List.getElem?_drop] at hj
    have h5 := (hb1.cell (p := ⟨g, i * 2 + j, none⟩) hgl).trans (hcs _ _ hj)
    exact hgr4.cell (a := ⟨g, i * 2 + j, none⟩) h5 (by intro e; injection e with e; show False; have : g = w.heap.size := e; omega)
  go_region_law ((refine step_copy_rowS rfl _ _ 25 25 rfl 55 2 Try.underlying25 sizes_sun w.heap.size ((i + 1) * 2) (n + 1 - (i + 1)) (G - (i + 1)) ⟨g, i * 2, none⟩ (n - i) (cc - i) (by simp [Act.eval, Act.put]) (by simp [Act.eval, Act.put]) _ _ HG4.out (xs.drop (i * 2)) h1len h1src h1fit h1one ?_); intro uu w3 hg3 hgr3; have HG3 := hide hg3; clear hg3)
  go_wp2
  go_ret
  refine ⟨_, rfl, ⟨rowL_len _ _ _, .inr ⟨w.heap.size, G, _, rfl, hB, HG3.out, hGn, hGm, ?_, ?_⟩⟩, ?_⟩
  · simpa using H4L.out
  · have e := HSP.out
    rw [HRT.out] at e
    rw [show (i + 1) * 2 = i * 2 + 2 by omega, show (n + 1) * 2 = i * 2 + 2 + (n - i) * 2 by omega]
    rw [← HR.out, newR_row]
    simpa using e
  · exact ((hb1.mono hB).trans (below_grown hgr4 hB (by omega))).trans ((Below.refl _ _).drew.trans (below_grown hgr3 hB (Nat.le_trans hB (by have := hgr4.size; show w.heap.size ≤ w4.heap.size; omega))))
theorem insS_any (base n vb i : Nat) (v : Value) (F : Nat → Nat → Int) (t x : Int) (w : World) (hn : n ≤ 1048576) (hi : i ≤ n) (hB : base ≤ w.heap.size) (ho : w.ownsRow base 55 2 v n (rowL (ints F) n 2)) (hv : w.heap[vb]? = some (.cells #[.int .i64 t, .int .i64 x] 55 (0, 0))) (hvl : vb < w.heap.size) (hne : v.ownBlock ≠ some vb) :
    Calls Try.prog 86 #[v, .int .i64 i, .slice (some ⟨vb, 0, none⟩) 1 1] w (InsP base n F i t x w) := by
  by_cases h : i = n
  · subst h
    exact insS_end base i vb v F t x w hn hB ho hv
  · obtain ⟨g, cc, rfl, h1, h2⟩ := ho.form (by omega)
    have hgv : vb ≠ g := fun e => hne (by rw [e]; rfl)
    by_cases hr : n + 1 ≤ cc
    · exact insS_room base n vb g cc i F t x w hn (by omega) hr hB ho hv hgv
    · exact insS_grow base n vb g cc i F t x w hn (by omega) (by omega) hB ho hv hvl
end Go.Proofs.Ytajmebclmippeaa
