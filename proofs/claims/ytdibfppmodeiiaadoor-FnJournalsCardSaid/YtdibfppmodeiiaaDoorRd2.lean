/- Contracts: readEntry. -/
import Derived.Test.YtdibfppmodeiiaaDoorRd
namespace Go.Proofs.YtdibfppmodeiiaaDoor
open Go.RowKit
set_option linter.unusedVariables false
theorem ext_list (s : ByteArray) (a b : Nat) (h : b ≤ s.size) : (s.extract a b).data.toList = (s.data.toList.drop a).take (b - a) := by
  rw [ByteArray.data_extract, Array.toList_extract, List.extract_eq_take_drop]
theorem ba_len (s : ByteArray) : s.data.toList.length = s.size := Array.length_toList
theorem rd_parts {s : ByteArray} {c : Nat} {e : EntryD} (h : rdOk s c e) : ∃ n : Nat, Lib.indexByte s.data.toList 58 = (n : Int) ∧ n < s.size ∧ (s.extract 0 n).data.toList = Lib.decDigits e.text.size ∧ e.text.size ≤ 40 ∧ (65 ≤ e.kind ∧ e.kind ≤ 90) ∧
    ∃ R, (s.extract (n + 1) s.size).data.toList = UInt8.ofNat e.kind.toNat :: (e.text.data.toList ++ 58 :: R) := by
  obtain ⟨⟨h40, hk⟩, R, hf⟩ := rd_form h
  have hi := idx_app (l := Lib.decDigits e.text.size) (R := UInt8.ofNat e.kind.toNat :: (e.text.data.toList ++ 58 :: R)) (dig_no _)
  rw [← hf] at hi
  have hsz : s.size = (Lib.decDigits e.text.size).length + (1 + (1 + (e.text.data.toList.length + (1 + R.length)))) := by
    rw [← ba_len, hf]; simp; omega
  refine ⟨_, hi, by omega, ?_, h40, hk, R, ?_⟩
  · rw [ext_list _ _ _ (by omega), hf]; simp
  · rw [ext_list _ _ _ (Nat.le_refl _), hf, show Lib.decDigits e.text.size ++ 58 :: UInt8.ofNat e.kind.toNat :: (e.text.data.toList ++ 58 :: R) = (Lib.decDigits e.text.size ++ [58]) ++ UInt8.ofNat e.kind.toNat :: (e.text.data.toList ++ 58 :: R) by simp, List.drop_left' (by simp), List.take_of_length_le]
    simp only [List.length_cons, List.length_append]
    omega
/-- What readEntry gives: an entry and a word; the word is true just where the text begins with that entry, and false where it begins with none. -/
def RdPost (s : ByteArray) (c : Nat) (w : World) (e : Ending) (w' : World) : Prop :=
  ∃ (x : EntryD) (b : Bool), e = .returned (.tuple #[.agg #[.int .u8 x.kind, .string x.text], .bool b]) ∧ (b = true → rdOk s c x) ∧ (b = false → ∀ y, ¬ rdOk s c y) ∧ Below w.heap.size w w'
theorem rdPost_no {s : ByteArray} {c : Nat} {w w' : World} (hb : Below w.heap.size w w') (h : ∀ y, ¬ rdOk s c y) : RdPost s c w (.returned (.tuple #[.agg #[.int .u8 0, .string ⟨#[]⟩], .bool false])) w' :=
  ⟨⟨0, ⟨#[]⟩⟩, false, rfl, (fun h => by cases h), fun _ => h, hb⟩


set_option maxRecDepth 100000 in
set_option maxHeartbeats 2000000 in
theorem readEntry_c (s : ByteArray) (c : Nat) (w : World) (hs : s.size ≤ 2000000) (hc : c < 65521) (hE : JEnv w) : Calls Tryd.prog 44 #[.string s, .int .i64 c] w (RdPost s c w) := by
  have HE := Lib.hid hE
  clear hE
  have hge := Lib.indexByte_ge s.data.toList 58
  by_cases hi : Lib.indexByte s.data.toList 58 = -1
  · have HNO : Hid (∀ y, ¬ rdOk s c y) := fun y hy => by
      obtain ⟨n, h1, _⟩ := rd_parts hy
      omega
    have HCUT := Lib.hid (fun w => cut_f s w hi)
    clear hi hge
    go_enter Tryd.func44, Tryd.ntmps44
    go_wp2_with fail
    generalize hW0 : w.alloc _ = W0
    have hbW0 : Below w.heap.size w W0 := by subst hW0; exact (Below.refl _ _).alloc (Nat.le_refl _) _
    have hsW0 : W0.heap.size = w.heap.size + 1 := by subst hW0; simp
    have cxW0_0 : ∀ i, W0.cell? ⟨w.heap.size, i, none⟩ = (#[.int .u8 0, .string ⟨#[]⟩] : Array Value)[i]? := by intro i; subst hW0; simp [go_sem]
    have fzW0_0 : ∀ i, W0.frozen? ⟨w.heap.size, i, none⟩ = false := by intro i; subst hW0; simp [go_sem]
    have HSW0 := Lib.hid hsW0; clear hW0 hsW0
    refine (HCUT.out W0).mono ?_
    rintro e w1 ⟨rfl, hb1⟩
    have hB1 := bt hbW0 hb1
    have hz1 := Lib.hid hb1.size
    replace cxW0_0 := fun i => (hb1.cell (by (try simp only); have := HSW0.out; omega)).trans (cxW0_0 i)
    replace fzW0_0 := fun i => (hb1.frozen (by (try simp only); have := HSW0.out; omega)).trans (fzW0_0 i)
    go_wp2_with fail
    refine (readDecimal_c _ w1 (by omega) (HE.out.below hB1)).mono ?_
    rintro e w2 ⟨m, b, rfl, hmb, hm1, hm2, hb2⟩
    have hB2 := bt hB1 hb2
    replace cxW0_0 := fun i => (hb2.cell (by (try simp only); have := HSW0.out; have := hz1.out; omega)).trans (cxW0_0 i)
    replace fzW0_0 := fun i => (hb2.frozen (by (try simp only); have := HSW0.out; have := hz1.out; omega)).trans (fzW0_0 i)
    have HM1 := Lib.hid hm1
    have HM2 := Lib.hid hm2
    clear hm1 hm2
    go_wp2
    exact bodyPost_ret (v := .tuple #[.agg #[.int .u8 0, .string ⟨#[]⟩], .bool false]) (by simp [results, Tryd.results44, go_sem, cxW0_0]) rfl (rdPost_no ((hB2.setCell (Nat.le_refl _) _).setCell (Nat.le_refl _) _) HNO.out)

  · obtain ⟨n, hn⟩ : ∃ n : Nat, Lib.indexByte s.data.toList 58 = (n : Int) := ⟨_, (Int.toNat_of_nonneg (by omega)).symm⟩
    have hlt : n < s.size := by
      have := (idx_split (l := s.data.toList) (by rw [hn]; omega)).2
      rw [hn, ba_len] at this
      simpa using this
    have HCUT := Lib.hid (fun w => cut_t s n w hs hn hlt)
    have hls : (s.extract 0 n).size ≤ 2000000 := by rw [ByteArray.size_extract]; omega
    have hrs : (s.extract (n + 1) s.size).size ≤ 2000000 := by rw [ByteArray.size_extract]; omega
    have HPT : Hid (∀ y, rdOk s c y → (s.extract 0 n).data.toList = Lib.decDigits y.text.size ∧ y.text.size ≤ 40 ∧ (65 ≤ y.kind ∧ y.kind ≤ 90) ∧ ∃ R, (s.extract (n + 1) s.size).data.toList = UInt8.ofNat y.kind.toNat :: (y.text.data.toList ++ 58 :: R)) := fun y hy => by
      obtain ⟨n', h1, h2, h3, h4, h5, h6⟩ := rd_parts hy
      obtain rfl : n' = n := by omega
      exact ⟨h3, h4, h5, h6⟩
    generalize s.extract 0 n = l at *
    generalize s.extract (n + 1) s.size = r at *
    clear hi hge hn
    go_enter Tryd.func44, Tryd.ntmps44
    go_wp2_with fail
    generalize hW0 : w.alloc _ = W0
    have hbW0 : Below w.heap.size w W0 := by subst hW0; exact (Below.refl _ _).alloc (Nat.le_refl _) _
    have hsW0 : W0.heap.size = w.heap.size + 1 := by subst hW0; simp
    have cxW0_0 : ∀ i, W0.cell? ⟨w.heap.size, i, none⟩ = (#[.int .u8 0, .string ⟨#[]⟩] : Array Value)[i]? := by intro i; subst hW0; simp [go_sem]
    have fzW0_0 : ∀ i, W0.frozen? ⟨w.heap.size, i, none⟩ = false := by intro i; subst hW0; simp [go_sem]
    have HSW0 := Lib.hid hsW0; clear hW0 hsW0
    refine (HCUT.out W0).mono ?_
    rintro e w1 ⟨rfl, hb1⟩
    have hB1 := bt hbW0 hb1
    have hz1 := Lib.hid hb1.size
    replace cxW0_0 := fun i => (hb1.cell (by (try simp only); have := HSW0.out; omega)).trans (cxW0_0 i)
    replace fzW0_0 := fun i => (hb1.frozen (by (try simp only); have := HSW0.out; omega)).trans (fzW0_0 i)
    go_wp2_with fail
    refine (readDecimal_c _ w1 (by omega) (HE.out.below hB1)).mono ?_
    rintro e w2 ⟨m, b, rfl, hmb, hm1, hm2, hb2⟩
    have hB2 := bt hB1 hb2
    replace cxW0_0 := fun i => (hb2.cell (by (try simp only); have := HSW0.out; have := hz1.out; omega)).trans (cxW0_0 i)
    replace fzW0_0 := fun i => (hb2.frozen (by (try simp only); have := HSW0.out; have := hz1.out; omega)).trans (fzW0_0 i)
    have HM1 := Lib.hid hm1
    have HM2 := Lib.hid hm2
    clear hm1 hm2
    have HMM : Hid (∀ y, rdOk s c y → b = true ∧ m = y.text.size) := fun y hy => HM2.out _ (HPT.out y hy).2.1 (HPT.out y hy).1
    cases b
    · have HNO : Hid (∀ y, ¬ rdOk s c y) := fun y hy => by have := (HMM.out y hy).1; cases this
      go_wp2
      exact bodyPost_ret (v := .tuple #[.agg #[.int .u8 0, .string ⟨#[]⟩], .bool false]) (by simp [results, Tryd.results44, go_sem, cxW0_0]) rfl (rdPost_no ((hB2.setCell (Nat.le_refl _) _).setCell (Nat.le_refl _) _) HNO.out)

    · cases hW : inB m 0 40
      · have HNO : Hid (∀ y, ¬ rdOk s c y) := fun y hy => by
          have h1 := (HMM.out y hy).2
          have h2 := (HPT.out y hy).2.1
          have := inB_niff.1 hW
          omega
        go_wp2_with (first | (go_at_call 39; refine (within_b _ _ _ _ _ hW).mono ?_; rintro e w' ⟨rfl, rfl⟩))
        exact bodyPost_ret (v := .tuple #[.agg #[.int .u8 0, .string ⟨#[]⟩], .bool false]) (by simp [results, Tryd.results44, go_sem, cxW0_0]) rfl (rdPost_no ((hB2.setCell (Nat.le_refl _) _).setCell (Nat.le_refl _) _) HNO.out)

      · have hmm := inB_iff.1 hW
        obtain ⟨k, rfl⟩ := Int.eq_ofNat_of_zero_le hmm.1
        by_cases hle : (r.size : Int) ≤ (k : Int)
        · have HNO : Hid (∀ y, ¬ rdOk s c y) := fun y hy => by
            have h1 := (HMM.out y hy).2
            obtain ⟨_, _, _, R, hR⟩ := HPT.out y hy
            have := congrArg List.length hR
            rw [ba_len] at this
            simp only [List.length_cons, List.length_append, ba_len] at this
            omega
          go_wp2_with (first | (go_at_call 39; refine (within_b _ _ _ _ _ hW).mono ?_; rintro e w' ⟨rfl, rfl⟩))
          exact bodyPost_ret (v := .tuple #[.agg #[.int .u8 0, .string ⟨#[]⟩], .bool false]) (by simp [results, Tryd.results44, go_sem, cxW0_0]) rfl (rdPost_no ((hB2.setCell (Nat.le_refl _) _).setCell (Nat.le_refl _) _) HNO.out)

        · have hk0 : (0 : Int) ≤ (k : Int) := by omega
          have hwk : IntKind.i64.wrap ((k : Int) + 1) = (k : Int) + 1 := IntWalk.i64_in _ (by omega)
          have hr0 : (0 : Int) < (r.size : Int) := by omega
          have hr0' : 0 < r.size := by omega
          have hr2 : k + 1 ≤ r.size := by omega
          have hr1 : (k : Int) + 1 ≤ (r.size : Int) := by omega
          go_wp2_with (first | (go_at_call 39; refine (within_b _ _ _ _ _ hW).mono ?_; rintro e w' ⟨rfl, rfl⟩))
          go_region
          have HXU : Hid (∀ y, rdOk s c y → y = ⟨(r[0].toNat : Int), r.extract 1 (k + 1)⟩) := fun y hy => by
            have h1 := (HMM.out y hy).2
            obtain ⟨_, h40, hkk, R, hR⟩ := HPT.out y hy
            have hk2 : y.text.size = k := by omega
            obtain ⟨y0, y1⟩ := y
            simp only at hR hkk hk2
            have e0 : r[0] = UInt8.ofNat y0.toNat := by
              have : r.data.toList[0]? = some (UInt8.ofNat y0.toNat) := by rw [hR]; rfl
              have h2 : r.data.toList[0]? = some r[0] := by
                rw [List.getElem?_eq_getElem (by rw [ba_len]; omega)]; rfl
              rw [h2] at this
              exact Option.some.inj this
            have e1 : (r[0].toNat : Int) = y0 := by
              rw [e0, UInt8.toNat_ofNat']; omega
            have e2 : r.extract 1 (k + 1) = y1 := by
              apply ba_ext
              rw [ext_list _ _ _ (by omega), hR, ← hk2]
              simp only [List.drop_succ_cons, List.drop_zero]
              rw [List.take_append_of_le_length (by rw [ba_len]; omega), List.take_of_length_le (by rw [ba_len]; omega)]
            rw [e1, e2]
          have hx0 : 0 ≤ (r[0].toNat : Int) ∧ (r[0].toNat : Int) ≤ 255 := by have := r[0].toNat_lt; omega
          have hx1 : (r.extract 1 (k + 1)).size ≤ 40 := by rw [ByteArray.size_extract]; omega
          generalize (r[0].toNat : Int) = x0 at *
          generalize r.extract 1 (k + 1) = x1 at *
          have hB5 : Below w.heap.size w (w2.alloc (.cells #[.int .u8 x0, .string x1] 25)).drew := (hB2.alloc hB2.size _).drew
          have hl2 : w.heap.size < w2.heap.size := by have := HSW0.out; have := hz1.out; have := hb2.size; omega
          have hl5 : w2.heap.size < (w2.alloc (.cells #[.int .u8 x0, .string x1] 25)).drew.heap.size := by simp
          have cy : ∀ i, (w2.alloc (.cells #[.int .u8 x0, .string x1] 25)).drew.cell? ⟨w2.heap.size, i, none⟩ = (#[.int .u8 x0, .string x1] : Array Value)[i]? := by intro i; simp [go_sem]
          have hb5 : Below w2.heap.size w2 (w2.alloc (.cells #[.int .u8 x0, .string x1] 25)).drew := ((Below.refl _ _).alloc (Nat.le_refl _) _).drew
          have cz : ∀ i, (w2.alloc (.cells #[.int .u8 x0, .string x1] 25)).drew.cell? ⟨w.heap.size, i, none⟩ = (#[.int .u8 0, .string ⟨#[]⟩] : Array Value)[i]? := fun i => (hb5.cell (p := ⟨w.heap.size, i, none⟩) hl2).trans (cxW0_0 i)
          have fz : ∀ i, (w2.alloc (.cells #[.int .u8 x0, .string x1] 25)).drew.frozen? ⟨w.heap.size, i, none⟩ = false := fun i => (hb5.frozen (p := ⟨w.heap.size, i, none⟩) hl2).trans (fzW0_0 i)
          generalize (w2.alloc (.cells #[.int .u8 x0, .string x1] 25)).drew = W5 at *
          have HT5 := Lib.hid (HE.out.below hB5)
          have HKd : Hid (∀ W1 : World, Below W5.heap.size W5 W1 → ((∀ i, W1.cell? ⟨w2.heap.size, i, none⟩ = (#[.int .u8 x0, .string x1] : Array Value)[i]?) ∧ Below w.heap.size w W1)) := fun W1 h => ⟨fun i => (h.cell (p := ⟨w2.heap.size, i, none⟩) hl5).trans (cy i), below_then hB5 h (Nat.le_refl _)⟩
          have HKs : Hid (∀ (W1 : World) (u v : Value), Below W5.heap.size W5 W1 → (∀ i, ((W1.setCell ⟨w.heap.size, 0, none⟩ u).setCell ⟨w.heap.size, 1, none⟩ v).cell? ⟨w2.heap.size, i, none⟩ = (#[.int .u8 x0, .string x1] : Array Value)[i]?) ∧ Below w.heap.size w ((W1.setCell ⟨w.heap.size, 0, none⟩ u).setCell ⟨w.heap.size, 1, none⟩ v)) := fun W1 u v h => by
            refine ⟨fun i => ?_, ((below_then hB5 h (Nat.le_refl _)).setCell (Nat.le_refl _) _).setCell (Nat.le_refl _) _⟩
            have h1 : ((W1.setCell ⟨w.heap.size, 0, none⟩ u).setCell ⟨w.heap.size, 1, none⟩ v).heap[w2.heap.size]? = W1.heap[w2.heap.size]? := by
              rw [Below.heap_setCell _ _ _ _ (by simp only; omega), Below.heap_setCell _ _ _ _ (by simp only; omega)]
            rw [World.cell?_of_block (a := ⟨w2.heap.size, i, none⟩) h1]
            exact ((h.cell (p := ⟨w2.heap.size, i, none⟩) hl5).trans (cy i))
          have HX1 := Lib.hid hx1
          have HX0 := Lib.hid hx0
          clear hb5 hB5 cxW0_0 fzW0_0 hle hW hmm hwk hr0 hr0' hr2 hr1 hx0 hx1
          cases hO : entOk ⟨x0, x1⟩
          · have HNO : Hid (∀ y, ¬ rdOk s c y) := fun y hy => by
              have := HXU.out y hy
              subst this
              rw [hy.1] at hO; cases hO
            go_wp2_with fail
            rw [show (Op.move (Operand.tmp 0) : Op) = id (Op.move (Operand.tmp 0)) from rfl, show (Op.move (Operand.tmp 1) : Op) = id (Op.move (Operand.tmp 1)) from rfl, show ∀ p a g, Oper.mk (some 53) (Op.load 25 (Operand.tmp 11)) 25 p a g = Oper.mk (some 53) (id (Op.load 25 (Operand.tmp 11))) 25 p a g from fun _ _ _ => rfl]
            go_region_held3 (fun W1 => (∀ i, W1.cell? ⟨w2.heap.size, i, none⟩ = (#[.int .u8 x0, .string x1] : Array Value)[i]?) ∧ Below w.heap.size w W1) (first | exact HKd.out _ ((Below.refl _ _).drew) | exact HKd.out _ hB3 | exact HKs.out _ _ _ hB3)
              ((first
                | (go_at_call 52; refine (isEntry_b _ _ _ _ HX0.out (by have := HX1.out; omega) hO).mono ?_; rintro e w3 ⟨rfl, hb3⟩; have hB3 : Below W5.heap.size W5 w3 := below_then ((Below.refl _ _).drew) hb3 (Nat.le_refl _); have hs3 := hB3.size; have cz3 : ∀ i, w3.cell? ⟨w.heap.size, i, none⟩ = (#[.int .u8 0, .string ⟨#[]⟩] : Array Value)[i]? := fun i => (hB3.cell (p := ⟨w.heap.size, i, none⟩) (by simp only; omega)).trans (cz i); have fz3 : ∀ i, w3.frozen? ⟨w.heap.size, i, none⟩ = false := fun i => (hB3.frozen (p := ⟨w.heap.size, i, none⟩) (by simp only; omega)).trans (fz i))))
            all_goals
              go_wp2
              exact bodyPost_ret (v := .tuple #[.agg #[.int .u8 x0, .string x1], .bool false]) (by simp [results, Tryd.results44, go_sem, cz3]) rfl ⟨⟨x0, x1⟩, false, rfl, (fun h => by cases h), fun _ => HNO.out, (HKs.out _ _ _ hB3).2⟩
          · have HWR := fun W h => written_c x0 x1 c W (by have := HX1.out; omega) hc h
            have HFIN : Hid ((Lib.hasPrefix s.data.toList (wrT x0 x1 c).data.toList = true → rdOk s c ⟨x0, x1⟩) ∧ (Lib.hasPrefix s.data.toList (wrT x0 x1 c).data.toList = false → ∀ y, ¬ rdOk s c y)) := by
              refine ⟨fun h => ⟨hO, List.isPrefixOf_iff_prefix.1 h⟩, fun h y hy => ?_⟩
              have := HXU.out y hy
              subst this
              have h2 : Lib.hasPrefix s.data.toList (wrT x0 x1 c).data.toList = true := List.isPrefixOf_iff_prefix.2 hy.2
              rw [h2] at h; cases h
            have HWRT := Lib.hid HWR
            clear HWR
            have HPF := Lib.hid (Tryd.strings_HasPrefix s (wrT x0 x1 c))
            generalize wrT x0 x1 c = q at *
            go_wp2_with fail
            go_region_held3 (fun W1 => (∀ i, W1.cell? ⟨w2.heap.size, i, none⟩ = (#[.int .u8 x0, .string x1] : Array Value)[i]?) ∧ Below w.heap.size w W1) (first | exact HKd.out _ ((Below.refl _ _).drew) | exact HKd.out _ hB3 | exact HKd.out _ hB4 | exact HKs.out _ _ _ hB4)
              ((first
                | (go_at_call 52; refine (isEntry_b _ _ _ _ HX0.out (by have := HX1.out; omega) hO).mono ?_; rintro e w3 ⟨rfl, hb3⟩; have hB3 : Below W5.heap.size W5 w3 := below_then ((Below.refl _ _).drew) hb3 (Nat.le_refl _); have hs3 := hB3.size; have cz3 : ∀ i, w3.cell? ⟨w.heap.size, i, none⟩ = (#[.int .u8 0, .string ⟨#[]⟩] : Array Value)[i]? := fun i => (hB3.cell (p := ⟨w.heap.size, i, none⟩) (by simp only; omega)).trans (cz i); have fz3 : ∀ i, w3.frozen? ⟨w.heap.size, i, none⟩ = false := fun i => (hB3.frozen (p := ⟨w.heap.size, i, none⟩) (by simp only; omega)).trans (fz i))
                | (go_at_call 46; refine (HWRT.out _ (HT5.out.below hB3).1).mono ?_; rintro e w4 ⟨rfl, hb4⟩; have hB4 : Below W5.heap.size W5 w4 := below_then hB3 hb4 (Nat.le_refl _); have hs4 := hB4.size; have cz4 : ∀ i, w4.cell? ⟨w.heap.size, i, none⟩ = (#[.int .u8 0, .string ⟨#[]⟩] : Array Value)[i]? := fun i => (hB4.cell (p := ⟨w.heap.size, i, none⟩) (by simp only; omega)).trans (cz i); have fz4 : ∀ i, w4.frozen? ⟨w.heap.size, i, none⟩ = false := fun i => (hB4.frozen (p := ⟨w.heap.size, i, none⟩) (by simp only; omega)).trans (fz i))
                | (go_at_call 56; refine (HPF.out _).mono ?_; rintro e w' ⟨rfl, rfl⟩)))
            all_goals
              go_wp2
              exact bodyPost_ret (v := .tuple #[.agg #[.int .u8 x0, .string x1], .bool (Lib.hasPrefix s.data.toList q.data.toList)]) (by simp [results, Tryd.results44, go_sem, cz4]) rfl ⟨⟨x0, x1⟩, _, rfl, HFIN.out.1, HFIN.out.2, (HKs.out _ _ _ hB4).2⟩

end Go.Proofs.YtdibfppmodeiiaaDoor
