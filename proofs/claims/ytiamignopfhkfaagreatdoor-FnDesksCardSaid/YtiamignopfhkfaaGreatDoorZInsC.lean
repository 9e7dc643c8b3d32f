/- slices.Insert of one element: lemmas, contract. -/
import Derived.Test.YtiamignopfhkfaaGreatDoorZ4
import Derived.Lib.AppendZerosOnto
import Derived.Deep.RegionLaw
import Derived.Laws.NewBlocks
import Derived.Test.YtiamignopfhkfaaGreatDoorZ2
namespace Go.Proofs.YtiamignopfhkfaaGreatDoor
open Go.RowKit
set_option linter.unusedVariables false
/-- copy, for elements of several cells: all is read before anything is written. -/
theorem run_copyG {P : Program} (w : World) (dT sT ty elem : TypeId) (i : TypeInfo) (size : Nat) (hu : P.underlying dT = some (.slice elem)) (hi : P.info? elem = some i) (hs : i.size = size) (b o dLen dCap : Nat) (a : Addr) (sLen sCap : Nat) (cs : List Value)
    (hn : cs.length = Nat.min sLen dLen * size) (hsrc : ∀ j v, cs[j]? = some v → w.cell? (a.add j) = some v) (hc : ∀ j, j < cs.length → (w.cell? ⟨b, o + j, none⟩).isSome = true) (hf : ∀ j, j < cs.length → w.frozen? ⟨b, o + j, none⟩ = false) (h1 : ∀ v ∈ cs, v.oneCell' = true) :
    (Builtin.copy_ #[dT, sT] ty #[.slice (some ⟨b, o, none⟩) dLen dCap, .slice (some a) sLen sCap]).run P w = .ok (goInt (Nat.min sLen dLen : Nat)) (w.setCells b o cs) := by
  have hl := run_loadCells_list (P := P) w a cs hsrc
  have hst := run_storeCells_cells (P := P) b o cs 0 w (by simpa using hc) (by simpa using hf) h1
  subst hs
  rw [hn] at hl
  simp [Builtin.copy_, run_underlying hu, Builtin.lenOf, Builtin.firstCells, sizeOf, typeInfo, hi, hl, hst]
theorem own_setCells {base : Nat} {e : TypeId} {size g n cap : Nat} : ∀ (cs : List Value) {w : World} {o : Nat} {xs : List Value}, w.ownsRow base e size (.slice (some ⟨g, 0, none⟩) n cap) n xs →
    (w.setCells g o cs).ownsRow base e size (.slice (some ⟨g, 0, none⟩) n cap) n (setL xs o cs) ∧ w.grownBy (w.setCells g o cs) (some g)
  | [], w, o, xs, h => ⟨h, World.grownBy.refl _ _⟩
  | c :: cs, w, o, xs, h => by
    have h1 := h.stored o c
    have h2 := own_setCells cs (o := o + 1) h1.1
    exact ⟨h2.1, grown_trans' h1.2 h2.2⟩
theorem setL_mid : ∀ (cs A B : List Value), cs.length ≤ B.length → setL (A ++ B) A.length cs = A ++ (cs ++ B.drop cs.length)
  | [], A, B, _ => by simp [setL]
  | c :: cs, A, [], h => by simp at h
  | c :: cs, A, b :: B, h => by
    have ih := setL_mid cs (A ++ [c]) B (by simpa using h)
    have e : (A ++ b :: B).set A.length c = (A ++ [c]) ++ B := by
      rw [List.set_append_right _ _ (Nat.le_refl _), Nat.sub_self]; simp
    rw [setL, e, show A.length + 1 = (A ++ [c]).length by simp, ih]
    simp
/-- A new element put between the first cells and the others. -/
theorem setL_two {A cs D B : List Value} (hB : B.length = cs.length + D.length) : setL (setL (A ++ B) A.length cs) (A.length + cs.length) D = A ++ (cs ++ D) := by
  rw [setL_mid cs A B (by omega), ← List.append_assoc, show A.length + cs.length = (A ++ cs).length by simp, setL_mid D (A ++ cs) (B.drop cs.length) (by simp; omega)]
  have : (List.drop D.length (List.drop cs.length B)) = [] := by rw [List.drop_drop]; exact List.drop_of_length_le (by omega)
  rw [this]; simp
theorem wpList_copy_runG {P : Program} (w : World) {ops : Array Oper} {rest : List Oper} {o : Oper} {a : Act} {Q : Exit → Act → World → Prop} (hgd : o.guard = none) (d s : Operand) (t t' : TypeId)
    (ho : o.op = .call { callee := .builtin .copy, args := #[d, s], argTypes := #[t, t'] }) (v u : Value) (hd : a.eval d = v) (hs : a.eval s = u) {v' : Value} {w' : World}
    (hr : (Builtin.copy_ #[t, t'] o.type #[v, u]).run P w = .ok v' w') (h : wpList P ops Q rest (a.put o.dst v') w') : wpList P ops Q (o :: rest) a w := by
  refine wpList_plain hgd fun K hK => ?_
  unfold Oper.wp execOp
  simp only [ho, resolve, invoke, builtin, Sem.run_bind, Sem.run_pure, Result.andThen_ok, List.map_toArray, List.map_cons, List.map_nil, hd, hs, hr]
  exact hK _ _ h
theorem step_copy_runG {P : Program} {ops : Array Oper} {o : Oper} {a : Act} {w : World} {K : Act → World → Prop} {Q : Exit → Act → World → Prop} {E : Prop}
    (hg : o.guard = none) (d x : Operand) (dT sT : TypeId) (hop : o.op = Op.call { callee := Callee.builtin Builtin.copy, args := #[d, x], argTypes := #[dT, sT] })
    (v u : Value) (hd : a.eval d = v) (hx : a.eval x = u) {v' : Value} {w' : World} (hr : (Builtin.copy_ #[dT, sT] o.type #[v, u]).run P w = .ok v' w') (hK : K (a.put o.dst v') w') :
    if Region.wanted o (yielded ops a.tmps) = true then Oper.wp P o a w K Q else E := by
  have hw : Region.wanted o (yielded ops a.tmps) = true := by simp [Region.wanted, hg]
  rw [if_pos hw]
  unfold Oper.wp
  simp [execOp, hop, resolve, invoke, builtin, hd, hx, hr, Result.andThen]
  exact hK
theorem drew_setCellsG (b : Nat) : ∀ (vs : List Value) (o : Nat) (w : World), (w.setCells b o vs).drew = w.drew.setCells b o vs
  | [], _, _ => rfl
  | v :: r, o, w => by rw [World.setCells, World.setCells, drew_setCellsG b r]; rfl
theorem grown_drew {w w' : World} {row : Option Nat} (h : w.grownBy w' row) : w.grownBy w'.drew row := ⟨h.os, h.tape, h.output, h.size, h.block⟩
theorem adz (b off j : Nat) : (⟨b, off, none⟩ : Addr).add j = ⟨b, off + j, none⟩ := by unfold Addr.add; split <;> simp_all


set_option maxRecDepth 100000 in
set_option maxHeartbeats 4000000 in
theorem insertCall_c (g n i vb base : Nat) (xs cs : List Value) (w : World) (hown : w.ownsRow base 68 4 (.slice (some ⟨g, 0, none⟩) n n) n xs) (hi : i ≤ n) (hn : (n + 1) * 32 ≤ 140737488355328)
    (hcl : cs.length = 4) (h1c : ∀ v ∈ cs, v.oneCell' = true) (h1x : ∀ v ∈ xs, v.oneCell' = true) (hv : w.heap[vb]? = some (.cells cs.toArray 68 (0, 0))) (hbase : base ≤ w.heap.size) :
    Calls Tryz.prog 187 #[.slice (some ⟨g, 0, none⟩) n n, .int .i64 i, .slice (some ⟨vb, 0, none⟩) 1 1] w fun e w' =>
      ∃ A c, e = .returned (.slice A (n + 1) c) ∧ w'.ownsRow base 68 4 (.slice A (n + 1) c) (n + 1) (xs.take (i * 4) ++ (cs ++ xs.drop (i * 4))) ∧ w.grownBy w' (some g) := by
  obtain ⟨i0, hi0, hz0, hzs, hzb⟩ := info_parts call_info
  have hxl := hown.1
  by_cases hin : i = n
  · subst hin
    have HX : Hid (xs.take (i * 4) ++ (cs ++ xs.drop (i * 4)) = xs ++ cs) := by
      show _ = _
      rw [List.take_of_length_le (by omega), List.drop_of_length_le (by omega)]; simp
    have HR := Lib.hid (Rd.of_block hv)
    have hcs1 : Hid (cs.length = 1 * 4) := by show _ = _; omega
    have HO := Lib.hid hown
    clear hown hv
    go_enter Tryz.func187, Tryz.ntmps187
    go_wp2_with (at_builtin; refine wpList_cat w rfl _ _ 31 rfl base 68 i0 _ 4 32 Tryz.underlying31 hi0 hz0 hzs hzb rfl (by decide) (.slice (some ⟨g, 0, none⟩) i i) i xs (by rfl) HO.out (some ⟨vb, 0, none⟩) 1 1 w.heap.size cs (by rfl) (by have := HR.out; simp only [List.size_toArray] at this; rw [hcs1.out] at this; exact this) h1c (by unfold maxLen; omega) (by omega) hbase ?_; intro A2 c2 w2 ho2 hg2)
    all_goals (go_ret; exact ⟨A2, c2, rfl, by rw [HX.out]; exact ho2, hg2⟩)
  · have hlt : i < n := by omega
    have hgb := own_lt hown
    have hvw : vb < w.heap.size := (Array.getElem?_eq_some_iff.1 hv).1
    obtain ⟨G, hG⟩ : ∃ G, G = grownCap w (n + 1) n 68 := ⟨_, rfl⟩
    obtain ⟨z0, hz⟩ : ∃ z0, i0.zero = some z0 := ⟨_, hz0⟩
    have hzc : z0.cells.size = 4 := by
      rw [hz0] at hz
      have := Option.some.inj hz
      rw [← this]; rfl
    have hold : (Builtin.firstCells i0.size i (.slice (some ⟨g, 0, none⟩) i n)).run Tryz.prog w.drew = .ok (xs.take (i * 4)).toArray w.drew := by
      rw [hzs]
      exact run_firstCells_some w.drew 4 i ⟨g, 0, none⟩ i n (xs.take (i * 4)) (by rw [List.length_take]; omega) (fun j v hj => by
        rw [adz, Nat.zero_add]
        rw [List.getElem?_take] at hj
        split at hj
        · have := hown.cellAt j (by omega)
          rw [hj] at this
          exact this
        · cases hj)
    have hik : i + (n + 1 - i) = n + 1 := by omega
    have hkk : (n : Int) + 1 - (i : Int) = ((n + 1 - i : Nat) : Int) := by omega
    obtain ⟨ROW, hROW⟩ : ∃ ROW : Array Value, ROW = (xs.take (i * 4)).toArray ++ Builtin.zeroCells z0.cells (n + 1 - i) ++ Builtin.zeroCells z0.cells (G - (n + 1)) := ⟨_, rfl⟩
    have hrz : ∀ ty, (Builtin.append_ #[31, 3] ty #[.slice (some ⟨g, 0, none⟩) i n, .int .i64 ((n : Int) + 1 - (i : Int))]).run Tryz.prog w =
        .ok (.slice (some ⟨w.heap.size, 0, none⟩) (n + 1) G) (w.drew.alloc (.cells ROW 68)) := fun ty => by
      have h := Lib.run_append_grow_zeros w 31 3 ty 68 i0 z0 .i64 .i64 Tryz.underlying31 Tryz.underlying3 hi0 hz (some ⟨g, 0, none⟩) i n (xs.take (i * 4)) hold (n + 1 - i) (by omega) (by omega) (by omega) (by omega) (by rw [hzb]; omega) (by rw [hzb, hik]; exact growslice_fits (Nat.lt_succ_self n) hn)
      rw [hik] at h
      rw [hkk, hROW, hG]
      exact h
    have hGn : n + 1 ≤ G := by rw [hG]; exact grownCap_ge w _ _ _
    have hG63 : G ≤ 9223372036854775807 := by
      have := grownCap_le_maxLen w (n + 1) n 68 (by unfold maxLen; omega)
      rw [← hG] at this
      unfold maxLen at this
      omega
    have hzl : ∀ k, (Builtin.zeroCells z0.cells k).size = k * 4 := fun k => by simp [Builtin.zeroCells, hzc]
    have hRs : ROW.size = G * 4 := by
      rw [hROW]
      simp only [Array.size_append, hzl, List.size_toArray, List.length_take, hxl]
      rw [Nat.min_eq_left (by omega)]
      omega
    obtain ⟨W1, hW1⟩ : ∃ W1, W1 = w.drew.alloc (.cells ROW 68) := ⟨_, rfl⟩
    rw [← hW1] at hrz
    have hown1 : W1.ownsRow base 68 4 (.slice (some ⟨w.heap.size, 0, none⟩) (n + 1) G) (n + 1) (xs.take (i * 4) ++ (Builtin.zeroCells z0.cells (n + 1 - i)).toList) := by
      have hl1 : (xs.take (i * 4)).length = i * 4 := by rw [List.length_take]; omega
      have hl2 : (Builtin.zeroCells z0.cells (n + 1 - i)).toList.length = (n + 1 - i) * 4 := by rw [Array.length_toList, hzl]
      refine ⟨by rw [List.length_append, hl1, hl2]; omega, .inr ⟨w.heap.size, G, ROW, rfl, hbase, by rw [hW1]; exact heap_alloc_new w.drew _, hGn, hG63, hRs, ?_⟩⟩
      rw [hROW]
      simp only [Array.toList_append]
      rw [List.take_append_of_le_length (by rw [List.length_append, hl1, hl2]; omega), List.take_of_length_le (by rw [List.length_append, hl1, hl2]; omega)]
    have hBW : Below w.heap.size w W1 := by rw [hW1]; exact ⟨rfl, rfl, rfl, by simp, fun k hk => Below.heap_alloc w.drew _ k hk⟩
    have hF1 := own_setCells cs (o := i * 4) hown1
    have hF2 := own_setCells (xs.drop (i * 4)) (o := (i + 1) * 4) hF1.1
    have hvc : ∀ j v, cs[j]? = some v → W1.cell? ((⟨vb, 0, none⟩ : Addr).add j) = some v := fun j v hj => by
      rw [adz, Nat.zero_add, hBW.cell (p := ⟨vb, j, none⟩) hvw, cell_of_row w vb j cs.toArray 68 (0, 0) hv]
      simpa using hj
    have hxc : ∀ j v, (xs.drop (i * 4))[j]? = some v → (W1.setCells w.heap.size (i * 4) cs).cell? ((⟨g, i * 4, none⟩ : Addr).add j) = some v := fun j v hj => by
      rw [adz, World.cell?_of_block (a := ⟨g, i * 4 + j, none⟩) (hF1.2.block g (by have := hBW.size; omega) (fun e => by have := Option.some.inj e; omega)), hBW.cell (p := ⟨g, i * 4 + j, none⟩) hgb.2]
      rw [List.getElem?_drop] at hj
      rw [hown.cellAt _ (by have := (List.getElem?_eq_some_iff.1 hj).1; omega), hj]
    have hdl : (xs.drop (i * 4)).length = (n - i) * 4 := by rw [List.length_drop]; omega
    have hcp1 : ∀ (W : World), (∀ x, W.cell? x = W1.cell? x) → (∀ x, W.frozen? x = W1.frozen? x) → ∀ ty dc, (Builtin.copy_ #[31, 31] ty #[.slice (some ⟨w.heap.size, i * 4, none⟩) (n + 1 - i) dc, .slice (some ⟨vb, 0, none⟩) 1 1]).run Tryz.prog W = .ok (goInt (Nat.min 1 (n + 1 - i) : Nat)) (W.setCells w.heap.size (i * 4) cs) := fun W hWc hWf ty dc =>
      run_copyG W _ _ ty 68 i0 4 Tryz.underlying31 hi0 hzs w.heap.size (i * 4) (n + 1 - i) dc ⟨vb, 0, none⟩ 1 1 cs (by show cs.length = min 1 (n + 1 - i) * 4; rw [hcl, Nat.min_eq_left (by omega)]) (fun j v hj => by rw [hWc]; exact hvc j v hj)
        (fun j hj => by rw [hWc]; obtain ⟨u, hu⟩ := own_cell hown1 (j := i * 4 + j) (by omega); rw [hu]; rfl) (fun j hj => by rw [hWf]; exact hown1.frozenAt _) h1c
    have hcp2 : ∀ (W : World), (∀ x, W.cell? x = (W1.setCells w.heap.size (i * 4) cs).cell? x) → (∀ x, W.frozen? x = (W1.setCells w.heap.size (i * 4) cs).frozen? x) → ∀ ty dc sc, (Builtin.copy_ #[31, 31] ty #[.slice (some ⟨w.heap.size, (i + 1) * 4, none⟩) (n - i) dc, .slice (some ⟨g, i * 4, none⟩) (n - i) sc]).run Tryz.prog W = .ok (goInt (Nat.min (n - i) (n - i) : Nat)) (W.setCells w.heap.size ((i + 1) * 4) (xs.drop (i * 4))) := fun W hWc hWf ty dc sc =>
      run_copyG W _ _ ty 68 i0 4 Tryz.underlying31 hi0 hzs w.heap.size ((i + 1) * 4) (n - i) dc ⟨g, i * 4, none⟩ (n - i) sc (xs.drop (i * 4)) (by show _ = min (n - i) (n - i) * 4; rw [hdl, Nat.min_self]) (fun j v hj => by rw [hWc]; exact hxc j v hj)
        (fun j hj => by rw [hWc]; obtain ⟨u, hu⟩ := own_cell hF1.1 (j := (i + 1) * 4 + j) (by omega); rw [hu]; rfl) (fun j hj => by rw [hWf]; exact hF1.1.frozenAt _) (fun v hv => h1x v (List.mem_of_mem_drop hv))
    have HFIN : Hid (((W1.setCells w.heap.size (i * 4) cs).setCells w.heap.size ((i + 1) * 4) (xs.drop (i * 4))).ownsRow base 68 4 (.slice (some ⟨w.heap.size, 0, none⟩) (n + 1) G) (n + 1) (xs.take (i * 4) ++ (cs ++ xs.drop (i * 4))) ∧ w.grownBy ((W1.setCells w.heap.size (i * 4) cs).setCells w.heap.size ((i + 1) * 4) (xs.drop (i * 4))) (some g)) := by
      refine ⟨?_, ?_⟩
      · have hl1 : (xs.take (i * 4)).length = i * 4 := by rw [List.length_take]; omega
        have h2 := setL_two (A := xs.take (i * 4)) (cs := cs) (D := xs.drop (i * 4)) (B := (Builtin.zeroCells z0.cells (n + 1 - i)).toList) (by rw [Array.length_toList, hzl, hdl, hcl]; omega)
        rw [hl1, hcl, show i * 4 + 4 = (i + 1) * 4 by omega] at h2
        rw [← h2]
        exact hF2.1
      · have hb2 := below_grown (below_grown hBW hF1.2 (Nat.le_refl _) (fun k hk => by have := Option.some.inj hk; omega)) hF2.2 (Nat.le_refl _) (fun k hk => by have := Option.some.inj hk; omega)
        exact grown_of_below hb2 _
    have hin' : ¬ ((i : Int) = (n : Int)) := by omega
    have hni : ¬ (n = i) := by omega
    have hGi : ¬ (G = i) := by omega
    have hGi1 : ¬ (G = i + 1) := by omega
    have hb3 : (i : Int) ≤ (n : Int) := by omega
    have hw1 : IntKind.i64.wrap ((i : Int) + 1) = (i : Int) + 1 := IntWalk.i64_in _ (by omega)
    have hb1 : (0 : Int) ≤ (i : Int) + 1 := by omega
    have htn : ((i : Int) + 1).toNat = i + 1 := by omega
    have HCP1 := Lib.hid hcp1
    have HCP2 := Lib.hid hcp2
    have HRZ := Lib.hid hrz
    subst hW1
    clear hin hold hkk hik hROW hG hRs hcp1 hcp2 hrz hown1 hF1 hF2 hvc hxc hown hv hBW
    go_enter Tryz.func187, Tryz.ntmps187
    go_wp2_with (first
      | (at_builtin; refine Lib.wpList_append_run _ rfl _ _ _ _ rfl _ _ rfl rfl _ _ (HRZ.out _) ?_))
    rw [HCP1.out ((w.alloc (.cells ROW 68)).drew) (fun _ => rfl) (fun _ => rfl)]
    simp only [Result.andThen]
    rw [Oper.upon_value]
    go_wp2
    go_region_law (refine step_copy_runG rfl _ _ 31 31 rfl (.slice (some ⟨w.heap.size, (i + 1) * 4, none⟩) (n - i) (G - (i + 1))) (.slice (some ⟨g, i * 4, none⟩) (n - i) (n - i)) (by simp [Act.eval, Act.put]) (by simp [Act.eval, Act.put]) (HCP2.out (((w.alloc (.cells ROW 68)).drew.setCells w.heap.size (i * 4) cs).drew) (fun _ => rfl) (fun _ => rfl) _ _ _) ?_)
    go_wp2
    go_ret
    have hE : (((w.alloc (.cells ROW 68)).drew.setCells w.heap.size (i * 4) cs).drew.setCells w.heap.size ((i + 1) * 4) (xs.drop (i * 4))) = (((w.drew.alloc (.cells ROW 68)).setCells w.heap.size (i * 4) cs).setCells w.heap.size ((i + 1) * 4) (xs.drop (i * 4))).drew := by
      rw [drew_setCellsG, drew_setCellsG, drew_setCellsG]; rfl
    rw [hE]
    exact ⟨_, _, rfl, HFIN.out.1.drew, grown_drew HFIN.out.2⟩


set_option maxRecDepth 100000 in
set_option maxHeartbeats 4000000 in
theorem insertints_c (g n i vb base : Nat) (xs cs : List Value) (w : World) (hown : w.ownsRow base 2 1 (.slice (some ⟨g, 0, none⟩) n n) n xs) (hi : i ≤ n) (hn : (n + 1) * 8 ≤ 140737488355328)
    (hcl : cs.length = 1) (h1c : ∀ v ∈ cs, v.oneCell' = true) (h1x : ∀ v ∈ xs, v.oneCell' = true) (hv : w.heap[vb]? = some (.cells cs.toArray 2 (0, 0))) (hbase : base ≤ w.heap.size) :
    Calls Tryz.prog 186 #[.slice (some ⟨g, 0, none⟩) n n, .int .i64 i, .slice (some ⟨vb, 0, none⟩) 1 1] w fun e w' =>
      ∃ A c, e = .returned (.slice A (n + 1) c) ∧ w'.ownsRow base 2 1 (.slice A (n + 1) c) (n + 1) (xs.take i ++ (cs ++ xs.drop i)) ∧ w.grownBy w' (some g) := by
  obtain ⟨i0, hi0, hz0, hzs, hzb⟩ := info_parts int_info
  have hxl := hown.1
  by_cases hin : i = n
  · subst hin
    have HX : Hid (xs.take i ++ (cs ++ xs.drop i) = xs ++ cs) := by
      show _ = _
      rw [List.take_of_length_le (by omega), List.drop_of_length_le (by omega)]; simp
    have HR := Lib.hid (Rd.of_block hv)
    have hcs1 : Hid (cs.length = 1 * 1) := by show _ = _; omega
    have HO := Lib.hid hown
    clear hown hv
    go_enter Tryz.func186, Tryz.ntmps186
    go_wp2_with (at_builtin; refine wpList_cat w rfl _ _ 30 rfl base 2 i0 _ 1 8 Tryz.underlying30 hi0 hz0 hzs hzb rfl (by decide) (.slice (some ⟨g, 0, none⟩) i i) i xs (by rfl) HO.out (some ⟨vb, 0, none⟩) 1 1 w.heap.size cs (by rfl) (by have := HR.out; simp only [List.size_toArray] at this; rw [hcs1.out] at this; exact this) h1c (by unfold maxLen; omega) (by omega) hbase ?_; intro A2 c2 w2 ho2 hg2)
    all_goals (go_ret; exact ⟨A2, c2, rfl, by rw [HX.out]; exact ho2, hg2⟩)
  · have hlt : i < n := by omega
    have hgb := own_lt hown
    have hvw : vb < w.heap.size := (Array.getElem?_eq_some_iff.1 hv).1
    obtain ⟨G, hG⟩ : ∃ G, G = grownCap w (n + 1) n 2 := ⟨_, rfl⟩
    obtain ⟨z0, hz⟩ : ∃ z0, i0.zero = some z0 := ⟨_, hz0⟩
    have hzc : z0.cells.size = 1 := by
      rw [hz0] at hz
      have := Option.some.inj hz
      rw [← this]; rfl
    have hold : (Builtin.firstCells i0.size i (.slice (some ⟨g, 0, none⟩) i n)).run Tryz.prog w.drew = .ok (xs.take i).toArray w.drew := by
      rw [hzs]
      exact run_firstCells_some w.drew 1 i ⟨g, 0, none⟩ i n (xs.take i) (by rw [List.length_take]; omega) (fun j v hj => by
        rw [adz, Nat.zero_add]
        rw [List.getElem?_take] at hj
        split at hj
        · have := hown.cellAt j (by omega)
          rw [hj] at this
          exact this
        · cases hj)
    have hik : i + (n + 1 - i) = n + 1 := by omega
    have hkk : (n : Int) + 1 - (i : Int) = ((n + 1 - i : Nat) : Int) := by omega
    obtain ⟨ROW, hROW⟩ : ∃ ROW : Array Value, ROW = (xs.take i).toArray ++ Builtin.zeroCells z0.cells (n + 1 - i) ++ Builtin.zeroCells z0.cells (G - (n + 1)) := ⟨_, rfl⟩
    have hrz : ∀ ty, (Builtin.append_ #[30, 3] ty #[.slice (some ⟨g, 0, none⟩) i n, .int .i64 ((n : Int) + 1 - (i : Int))]).run Tryz.prog w =
        .ok (.slice (some ⟨w.heap.size, 0, none⟩) (n + 1) G) (w.drew.alloc (.cells ROW 2)) := fun ty => by
      have h := Lib.run_append_grow_zeros w 30 3 ty 2 i0 z0 .i64 .i64 Tryz.underlying30 Tryz.underlying3 hi0 hz (some ⟨g, 0, none⟩) i n (xs.take i) hold (n + 1 - i) (by omega) (by omega) (by omega) (by omega) (by rw [hzb]; omega) (by rw [hzb, hik]; exact growslice_fits (Nat.lt_succ_self n) hn)
      rw [hik] at h
      rw [hkk, hROW, hG]
      exact h
    have hGn : n + 1 ≤ G := by rw [hG]; exact grownCap_ge w _ _ _
    have hG63 : G ≤ 9223372036854775807 := by
      have := grownCap_le_maxLen w (n + 1) n 2 (by unfold maxLen; omega)
      rw [← hG] at this
      unfold maxLen at this
      omega
    have hzl : ∀ k, (Builtin.zeroCells z0.cells k).size = k * 1 := fun k => by simp [Builtin.zeroCells, hzc]
    have hRs : ROW.size = G * 1 := by
      rw [hROW]
      simp only [Array.size_append, hzl, List.size_toArray, List.length_take, hxl]
      rw [Nat.min_eq_left (by omega)]
      omega
    obtain ⟨W1, hW1⟩ : ∃ W1, W1 = w.drew.alloc (.cells ROW 2) := ⟨_, rfl⟩
    rw [← hW1] at hrz
    have hown1 : W1.ownsRow base 2 1 (.slice (some ⟨w.heap.size, 0, none⟩) (n + 1) G) (n + 1) (xs.take i ++ (Builtin.zeroCells z0.cells (n + 1 - i)).toList) := by
      have hl1 : (xs.take i).length = i := by rw [List.length_take]; omega
      have hl2 : (Builtin.zeroCells z0.cells (n + 1 - i)).toList.length = (n + 1 - i) * 1 := by rw [Array.length_toList, hzl]
      refine ⟨by rw [List.length_append, hl1, hl2]; omega, .inr ⟨w.heap.size, G, ROW, rfl, hbase, by rw [hW1]; exact heap_alloc_new w.drew _, hGn, hG63, hRs, ?_⟩⟩
      rw [hROW]
      simp only [Array.toList_append]
      rw [List.take_append_of_le_length (by rw [List.length_append, hl1, hl2]; omega), List.take_of_length_le (by rw [List.length_append, hl1, hl2]; omega)]
    have hBW : Below w.heap.size w W1 := by rw [hW1]; exact ⟨rfl, rfl, rfl, by simp, fun k hk => Below.heap_alloc w.drew _ k hk⟩
    have hF1 := own_setCells cs (o := i) hown1
    have hF2 := own_setCells (xs.drop i) (o := (i + 1)) hF1.1
    have hvc : ∀ j v, cs[j]? = some v → W1.cell? ((⟨vb, 0, none⟩ : Addr).add j) = some v := fun j v hj => by
      rw [adz, Nat.zero_add, hBW.cell (p := ⟨vb, j, none⟩) hvw, cell_of_row w vb j cs.toArray 2 (0, 0) hv]
      simpa using hj
    have hxc : ∀ j v, (xs.drop i)[j]? = some v → (W1.setCells w.heap.size i cs).cell? ((⟨g, i, none⟩ : Addr).add j) = some v := fun j v hj => by
      rw [adz, World.cell?_of_block (a := ⟨g, i + j, none⟩) (hF1.2.block g (by have := hBW.size; omega) (fun e => by have := Option.some.inj e; omega)), hBW.cell (p := ⟨g, i + j, none⟩) hgb.2]
      rw [List.getElem?_drop] at hj
      rw [hown.cellAt _ (by have := (List.getElem?_eq_some_iff.1 hj).1; omega), hj]
    have hdl : (xs.drop i).length = (n - i) * 1 := by rw [List.length_drop]; omega
    have hcp1 : ∀ (W : World), (∀ x, W.cell? x = W1.cell? x) → (∀ x, W.frozen? x = W1.frozen? x) → ∀ ty dc, (Builtin.copy_ #[30, 30] ty #[.slice (some ⟨w.heap.size, i, none⟩) (n + 1 - i) dc, .slice (some ⟨vb, 0, none⟩) 1 1]).run Tryz.prog W = .ok (goInt (Nat.min 1 (n + 1 - i) : Nat)) (W.setCells w.heap.size i cs) := fun W hWc hWf ty dc =>
      run_copyG W _ _ ty 2 i0 1 Tryz.underlying30 hi0 hzs w.heap.size i (n + 1 - i) dc ⟨vb, 0, none⟩ 1 1 cs (by show cs.length = min 1 (n + 1 - i) * 1; rw [hcl, Nat.min_eq_left (by omega)]) (fun j v hj => by rw [hWc]; exact hvc j v hj)
        (fun j hj => by rw [hWc]; obtain ⟨u, hu⟩ := own_cell hown1 (j := i + j) (by omega); rw [hu]; rfl) (fun j hj => by rw [hWf]; exact hown1.frozenAt _) h1c
    have hcp2 : ∀ (W : World), (∀ x, W.cell? x = (W1.setCells w.heap.size i cs).cell? x) → (∀ x, W.frozen? x = (W1.setCells w.heap.size i cs).frozen? x) → ∀ ty dc sc, (Builtin.copy_ #[30, 30] ty #[.slice (some ⟨w.heap.size, (i + 1), none⟩) (n - i) dc, .slice (some ⟨g, i, none⟩) (n - i) sc]).run Tryz.prog W = .ok (goInt (Nat.min (n - i) (n - i) : Nat)) (W.setCells w.heap.size ((i + 1)) (xs.drop i)) := fun W hWc hWf ty dc sc =>
      run_copyG W _ _ ty 2 i0 1 Tryz.underlying30 hi0 hzs w.heap.size ((i + 1)) (n - i) dc ⟨g, i, none⟩ (n - i) sc (xs.drop i) (by show _ = min (n - i) (n - i) * 1; rw [hdl, Nat.min_self]) (fun j v hj => by rw [hWc]; exact hxc j v hj)
        (fun j hj => by rw [hWc]; obtain ⟨u, hu⟩ := own_cell hF1.1 (j := (i + 1) + j) (by omega); rw [hu]; rfl) (fun j hj => by rw [hWf]; exact hF1.1.frozenAt _) (fun v hv => h1x v (List.mem_of_mem_drop hv))
    have HFIN : Hid (((W1.setCells w.heap.size i cs).setCells w.heap.size ((i + 1)) (xs.drop i)).ownsRow base 2 1 (.slice (some ⟨w.heap.size, 0, none⟩) (n + 1) G) (n + 1) (xs.take i ++ (cs ++ xs.drop i)) ∧ w.grownBy ((W1.setCells w.heap.size i cs).setCells w.heap.size ((i + 1)) (xs.drop i)) (some g)) := by
      refine ⟨?_, ?_⟩
      · have hl1 : (xs.take i).length = i := by rw [List.length_take]; omega
        have h2 := setL_two (A := xs.take i) (cs := cs) (D := xs.drop i) (B := (Builtin.zeroCells z0.cells (n + 1 - i)).toList) (by rw [Array.length_toList, hzl, hdl, hcl]; omega)
        rw [hl1, hcl, show i + 1 = (i + 1) by omega] at h2
        rw [← h2]
        exact hF2.1
      · have hb2 := below_grown (below_grown hBW hF1.2 (Nat.le_refl _) (fun k hk => by have := Option.some.inj hk; omega)) hF2.2 (Nat.le_refl _) (fun k hk => by have := Option.some.inj hk; omega)
        exact grown_of_below hb2 _
    have hin' : ¬ ((i : Int) = (n : Int)) := by omega
    have hni : ¬ (n = i) := by omega
    have hGi : ¬ (G = i) := by omega
    have hGi1 : ¬ (G = i + 1) := by omega
    have hb3 : (i : Int) ≤ (n : Int) := by omega
    have hw1 : IntKind.i64.wrap ((i : Int) + 1) = (i : Int) + 1 := IntWalk.i64_in _ (by omega)
    have hb1 : (0 : Int) ≤ (i : Int) + 1 := by omega
    have htn : ((i : Int) + 1).toNat = i + 1 := by omega
    have HCP1 := Lib.hid hcp1
    have HCP2 := Lib.hid hcp2
    have HRZ := Lib.hid hrz
    subst hW1
    clear hin hold hkk hik hROW hG hRs hcp1 hcp2 hrz hown1 hF1 hF2 hvc hxc hown hv hBW
    go_enter Tryz.func186, Tryz.ntmps186
    go_wp2_with (first
      | (at_builtin; refine Lib.wpList_append_run _ rfl _ _ _ _ rfl _ _ rfl rfl _ _ (HRZ.out _) ?_))
    rw [HCP1.out ((w.alloc (.cells ROW 2)).drew) (fun _ => rfl) (fun _ => rfl)]
    simp only [Result.andThen]
    rw [Oper.upon_value]
    go_wp2
    go_region_law (refine step_copy_runG rfl _ _ 30 30 rfl (.slice (some ⟨w.heap.size, (i + 1), none⟩) (n - i) (G - (i + 1))) (.slice (some ⟨g, i, none⟩) (n - i) (n - i)) (by simp [Act.eval, Act.put]) (by simp [Act.eval, Act.put]) (HCP2.out (((w.alloc (.cells ROW 2)).drew.setCells w.heap.size i cs).drew) (fun _ => rfl) (fun _ => rfl) _ _ _) ?_)
    go_wp2
    go_ret
    have hE : (((w.alloc (.cells ROW 2)).drew.setCells w.heap.size i cs).drew.setCells w.heap.size ((i + 1)) (xs.drop i)) = (((w.drew.alloc (.cells ROW 2)).setCells w.heap.size i cs).setCells w.heap.size ((i + 1)) (xs.drop i)).drew := by
      rw [drew_setCellsG, drew_setCellsG, drew_setCellsG]; rfl
    rw [hE]
    exact ⟨_, _, rfl, HFIN.out.1.drew, grown_drew HFIN.out.2⟩

end Go.Proofs.YtiamignopfhkfaaGreatDoor
