/-
  The iterator of lexis.Tokens, walked: it visits the items of the source, whatever the loop's body does that keeps the scanner.
-/
import Derived.Test.YtlbaojjnilnhlaaDoorIter
namespace Go.Proofs.YtlbaojjnilnhlaaDoor.PA
open Go Go.RowKit Go.Proofs.YtlbaojjnilnhlaaDoorW.PrintWords Go.Proofs.YtlbaojjnilnhlaaDoorW.PrintLast Go.Proofs.YtlbaojjnilnhlaaDoorW.PrintMore Go.Proofs.YtlbaojjnilnhlaaDoor.RangeX
set_option linter.unusedVariables false
set_option linter.unusedSimpArgs false

attribute [local simp] wide_fn
attribute [local go_sem] wide_fn

set_option maxHeartbeats 4000000 in
set_option maxRecDepth 100000 in
theorem iter_in (n l : Nat) (J Jx : List Item → World → Prop) (w0 W : World) (g c : Nat) (s : ByteArray) (hs : s.size ≤ 140737488355328) (hG : LaidW w0)
    (hJB : ∀ pre A, J pre A → Below w0.heap.size w0 A) (hJs : ∀ pre A B, J pre A → Stays (fun k => k = g ∨ k = c) A B → J pre B) (hJxs : ∀ pre A B, Jx pre A → Stays (fun k => k = g ∨ k = c) A B → Jx pre B)
    (hI : IsS52 w0 W g s 0) (hc : W.heap[c]? = some (.cells #[.pointer (some ⟨g, 0, none⟩)] 50 (0, 0))) (hne : g ≠ c)
    (hY : ∀ pre x W1, J pre W1 → pre.length < (items (s.size + 1) (bl s) 0).length → YieldAt Fence.wide (n - 1) Tryd.prog l (encI x) W1 fun e W' =>
        (e = .returned (.bool true) ∧ J (pre ++ [x]) W' ∧ RoundKeeps (fun k => k = g ∨ k = c) W1 W') ∨ (e = .returned (.bool false) ∧ Jx (pre ++ [x]) W'))
    (h0 : J [] W) :
    CallsIn Fence.wide n Tryd.prog 50 #[.func (.yield l) #[] #[], .pointer (some ⟨c, 0, none⟩)] W fun e W' => (∃ v, e = .returned v) ∧
      ((∃ xs, xs = items (s.size + 1) (bl s) 0 ∧ J xs W') ∨ (∃ pre, pre <+: items (s.size + 1) (bl s) 0 ∧ Jx pre W')) := by
  have hcc : W.cell? ⟨c, 0, none⟩ = some (.pointer (some ⟨g, 0, none⟩)) := blk_cell hc 0
  refine callsIn_of_wp Tryd.func50 rfl trivial ?_
  simp only [Tryd.ntmps50, List.size_toArray, List.length_cons, List.length_nil, Nat.reduceAdd, Nat.reduceSub, Array.replicate_succ, Array.replicate_zero, List.push_toArray, List.append_toArray, List.nil_append, List.cons_append]
  have C1 := Lib.hid (do_skip s 0 w0 W g hs (by simpa using hI) (hJB _ _ h0) (Nat.zero_le _))
  gi_wp2_with (first | ((first | refine ⟨trivial, wide_depth, ?_⟩ | refine ⟨wide_depth, ?_⟩ | skip); gi_at_call 51; refine (callsIn_wide.2 C1.out).mono ?_; rintro e w1 ⟨rfl, hI1, hB1, hK1⟩))
  have hS1 : Stays (fun k => k = g ∨ k = c) W w1 := stays_keep (.inl rfl) (hJB _ _ h0) hB1 hK1
  have hc1 : w1.heap[c]? = some (.cells #[.pointer (some ⟨g, 0, none⟩)] 50 (0, 0)) := (hK1.2 c (lt_of_some hc) (Ne.symm hne) (by simp)).trans hc
  have hJ1 := Lib.hid (hJs _ _ _ h0 hS1)
  have hI1' := Lib.hid hI1
  have hE := Lib.hid (show items (s.size + 1) (bl s) 0 = rest s (0 + skipN false (List.drop 0 (bl s))) s.size from items_rest s 0 s.size)
  have hc1' := Lib.hid hc1
  clear C1 hcc hI hc h0 hI1 hK1 hS1 hc1 hB1
  gi_loopg [] s.size (fun f wr => ∃ (pre : List Item) (p : Nat), Hid (J pre wr ∧ IsS52 w0 wr g s (p : Int) ∧ wr.heap[c]? = some (.cells #[.pointer (some ⟨g, 0, none⟩)] 50 (0, 0)) ∧ items (s.size + 1) (bl s) 0 = pre ++ rest s p f ∧ s.size ≤ p + f ∧ p ≤ s.size))
  case atStart =>
    refine ⟨[], 0 + skipN false (List.drop 0 (bl s)), Lib.hid ⟨hJ1.out, hI1'.out, hc1'.out, hE.out, by omega, skip_in s 0 (Nat.zero_le _)⟩⟩
  case round =>
    obtain ⟨pre, p, H⟩ := hrel
    obtain ⟨hJ, hI, hc, hE', hf, hp⟩ := H.out
    clear H hJ1 hI1' hE hc1'
    obtain ⟨HGz, hgz⟩ := id hI
    have hcg0 := cellS52_0 HGz
    have hcg1 := cellS52_1 HGz
    have hfg1 := blk_frozen HGz 1
    have hcc : wr.cell? ⟨c, 0, none⟩ = some (.pointer (some ⟨g, 0, none⟩)) := blk_cell hc 0
    have HJ := Lib.hid (And.intro hJ (And.intro hI (And.intro hc (And.intro hE' (And.intro hf hp)))))
    clear hJ hI hc hE' hf HGz hgz
    by_cases hlt : p < s.size
    · have t1 : decide (p < s.size) = true := by simpa using hlt
      rcases hd : (bl s).drop p with _ | ⟨x, r⟩
      · have := drop_none hd
        omega
      obtain ⟨hbt, _, hd1⟩ := bt_drop hd
      have hidx : ∀ h : p < s.size, ((s[p]'h).toNat : Int) = (x.toNat : Int) := fun h => by
        rw [← hbt]; unfold bt; rw [Int.toNat_natCast, dif_pos h]
      have hext : bl (s.extract p s.size) = x :: r := by rw [extract_end]; exact hd
      have HD := Lib.hid hd
      clear hd hd1 hbt hext
      by_cases hT : x = 116 ∧ r.head? = some 35
      · obtain ⟨rfl, hr⟩ := hT
        obtain ⟨r', rfl⟩ : ∃ r', r = 35 :: r' := by
          cases r with
          | nil => simp at hr
          | cons y r' => simp at hr; exact ⟨r', by rw [hr]⟩
        have hTp : strings_HasPrefix.f (s.extract p s.size) ⟨#[116, 35]⟩ = some true := by
          rw [hasPrefix_f, extract_end, HD.out]
          have : (⟨#[116, 35]⟩ : ByteArray).size ≤ (s.extract p s.size).size := by
            rw [size_bl (s.extract p s.size), extract_end, HD.out]
            show 2 ≤ _
            simp
          rw [show bl ⟨#[116, 35]⟩ = [116, 35] from rfl, show (⟨#[116, 35]⟩ : ByteArray).size = 2 from rfl] at *
          simp
          have h9 : (bl s).length = s.size := bl_length s
          have h8 : ((bl s).drop p).length = s.size - p := by rw [List.length_drop, h9]
          rw [HD.out] at h8
          simp at h8
          omega
        have CT := Lib.hid (fun W => strings_HasPrefix.calls (s.extract p s.size) ⟨#[116, 35]⟩ true W hTp)
        clear hTp hr
        gi_wp2
        gi_quiet (fail)
        gi_wp2
        gi_quiet (fail)
        gi_wp2
        gi_quiet (((first | refine ⟨trivial, wide_depth, ?_⟩ | refine ⟨wide_depth, ?_⟩ | skip); gi_at_call 53; refine (callsIn_wide.2 (CT.out _)).mono ?_; rintro e w' ⟨rfl, ⟨nd, rfl⟩⟩; first | exact ⟨rfl, _, World.drewN_drewN _ _ _⟩ | exact ⟨rfl, _, Eq.trans (World.drewN_drewN _ _ _) (congrArg (World.drewN _) (Nat.add_assoc _ _ _))⟩))
        have CR : Hid (∀ W : World, wr.heap = W.heap → Below w0.heap.size w0 W → Calls Tryd.prog 54 #[.pointer (some ⟨g, 0, none⟩)] W (ReadPost w0 W g s p (tokL ((bl s).drop p)))) :=
          Lib.hid (fun W hW hB => read_time s p w0 W g hs hG ⟨hW ▸ HJ.out.2.1.1, HJ.out.2.1.2⟩ hB r' HD.out)
        have HB := Lib.hid (hJB _ _ HJ.out.1)
        gi_wp2_with (first | ((first | refine ⟨trivial, wide_depth, ?_⟩ | refine ⟨wide_depth, ?_⟩ | skip); gi_at_call 54; refine (callsIn_wide.2 (CR.out _ (by rfl) (by exact pw_below_drewN HB.out _))).mono ?_; rintro e w2 ⟨rfl, hI2, hB2, hK2⟩; have hc2 := keep_blk hK2 (Ne.symm hne) HJ.out.2.2.1; have q0 := cellS52_0 hI2.1; have q1 := cellS52_1 hI2.1; have q2 := blk_frozen hI2.1 1; have q3 := cell0_of hc2; have q4 := IsS52.lt hI2; have q5 := lt_of_some hc2; have K2 := Lib.hid (And.intro hI2 (And.intro hB2 (And.intro hK2 hc2))); clear hI2 hB2 hK2 hc2))
        obtain ⟨hI2, hB2, hK2, hc2⟩ := K2.out
        have hJ2 := hJs _ _ _ HJ.out.1 (((Stays.of_drewN _ _ _).trans (stays_keep (own := fun k => k = g ∨ k = c) (.inl rfl) (pw_below_drewN HB.out _) hB2 hK2)).trans (Stays.alloc _ w2 (Obj.cells #[.int .i64 (tokL ((bl s).drop p)).1, .string ⟨(tokL ((bl s).drop p)).2.toArray⟩, .int .i64 (p : Int)] 33 (0, 0))))
        obtain ⟨fn_, tmps_, assign_, body_, hyy, hR⟩ := hY _ (itemAt s p) _ hJ2 (by have h9 := (rest_head (s := s) (f := gk) hlt).length_le; rw [HJ.out.2.2.2.1, List.length_append]; simp at h9; omega)
        simp only [encI, itemAt] at hyy
        rw [hyy]
        clear hyy
        refine ⟨wide_depth, hR.mono ?_⟩
        clear hR
        have hI3 : IsS52 w0 (w2.alloc (Obj.cells #[.int .i64 (tokL ((bl s).drop p)).1, .string ⟨(tokL ((bl s).drop p)).2.toArray⟩, .int .i64 (p : Int)] 33 (0, 0))) g s (p : Int) := ⟨(Below.heap_alloc _ _ _ q4).trans hI2.1, hI2.2⟩
        have hc3 : (w2.alloc (Obj.cells #[.int .i64 (tokL ((bl s).drop p)).1, .string ⟨(tokL ((bl s).drop p)).2.toArray⟩, .int .i64 (p : Int)] 33 (0, 0))).heap[c]? = some (.cells #[.pointer (some ⟨g, 0, none⟩)] 50 (0, 0)) := (Below.heap_alloc _ _ _ q5).trans hc2
        rintro e W' (⟨rfl, hJ', hk⟩ | ⟨rfl, hJx'⟩)
        · have hI4 : IsS52 w0 W' g s (p : Int) := ⟨(hk.mine g (.inl rfl)).trans hI3.1, hI3.2⟩
          have hc4 := (hk.mine c (.inr rfl)).trans hc3
          clear hI3 hc3 hk hJ2 q0 q1 q2 q3 q4 q5 hI2 hB2 hK2 hc2 K2
          have q0 := cellS52_0 hI4.1
          have q1 := cellS52_1 hI4.1
          have q2 := blk_frozen hI4.1 1
          have q3 := cell0_of hc4
          have q4 := IsS52.lt hI4
          have q5 := lt_of_some hc4
          have HN := Lib.hid (And.intro hJ' (And.intro hI4 hc4))
          clear hI4 hc4 hJ'
          by_cases hn : (tokL ((bl s).drop p)).2.length = 0
          · have e1 : (((tokL ((bl s).drop p)).2.length : Int) == 0) = true := by rw [hn]; rfl
            gi_wp2
            (try simp only [Exit.inBlock, Exit.then])
            refine bodyPost_ret (results_none rfl _ _ _) rfl ?_
            exact ⟨⟨_, rfl⟩, .inl ⟨pre ++ [itemAt s p], by rw [HJ.out.2.2.2.1, rest_nil hlt hn], HN.out.1⟩⟩
          · have e1 : (((tokL ((bl s).drop p)).2.length : Int) == 0) = false := by rw [beq_eq_false_iff_ne]; exact_mod_cast hn
            have hle : p + (tokL ((bl s).drop p)).2.length ≤ s.size := by have := tokL_len ((bl s).drop p); rw [List.length_drop, bl_length] at this; omega
            have CS : Hid (IsS52 w0 (W'.setCell ⟨g, 1, none⟩ (.int .i64 (wrap64 ((p : Int) + ((tokL ((bl s).drop p)).2.length : Int))))) g s ((p + (tokL ((bl s).drop p)).2.length : Nat) : Int) ∧
                J (pre ++ [itemAt s p]) (W'.setCell ⟨g, 1, none⟩ (.int .i64 (wrap64 ((p : Int) + ((tokL ((bl s).drop p)).2.length : Int)))))) := by
              refine Lib.hid ⟨?_, hJs _ _ _ HN.out.1 (Stays.setCell _ _ _ (.inl rfl))⟩
              rw [w64 (by omega) (by omega), ← Int.natCast_add]
              exact HN.out.2.1.set_1 _
            clear hle
            gi_wp2_with (first | ((first | refine ⟨trivial, wide_depth, ?_⟩ | refine ⟨wide_depth, ?_⟩ | skip); gi_at_call 51; refine (callsIn_wide.2 (do_skip s (p + (tokL ((bl s).drop p)).2.length) w0 _ g hs CS.out.1 (hJB _ _ CS.out.2) (by have := tokL_len ((bl s).drop p); rw [List.length_drop, bl_length] at this; omega))).mono ?_; rintro e w3 ⟨rfl, hI5, hB5, hK5⟩))
            obtain ⟨k1, hk1, hr1⟩ := rest_cons hlt HJ.out.2.2.2.2.1 hn
            have hJ5 := hJs _ _ _ CS.out.2 (stays_keep (own := fun k => k = g ∨ k = c) (.inl rfl) (hJB _ _ CS.out.2) hB5 hK5)
            have hc5 := keep_blk hK5 (Ne.symm hne) ((set_other (p := ⟨g, 1, none⟩) (fun e => hne e)).trans HN.out.2.2)
            gi_roundg k1
            case measure => omega
            case rel =>
              refine ⟨pre ++ [itemAt s p], _, Lib.hid ⟨hJ5, hI5, hc5, ?_, ?_, ?_⟩⟩
              · rw [HJ.out.2.2.2.1, hr1, List.append_assoc]; rfl
              · have := HJ.out.2.2.2.2.1; omega
              · exact skip_in s _ (by have := tokL_len ((bl s).drop p); rw [List.length_drop, bl_length] at this; omega)
        · gi_wp2
          (try simp only [Exit.inBlock, Exit.then])
          refine bodyPost_ret (results_none rfl _ _ _) rfl ?_
          refine ⟨⟨_, rfl⟩, .inr ⟨pre ++ [itemAt s p], ?_, hJx'⟩⟩
          rw [HJ.out.2.2.2.1]
          exact (List.prefix_append_right_inj pre).2 (rest_head hlt)
      · have hF : ((x :: r).take 2 == [116, 35]) = false := by
          rw [beq_eq_false_iff_ne]
          intro h
          apply hT
          cases r with
          | nil => simp at h
          | cons y r' => simp at h; exact ⟨h.1, by simp [h.2]⟩
        have hTp : strings_HasPrefix.f (s.extract p s.size) ⟨#[116, 35]⟩ = some false := by
          rw [hasPrefix_f, extract_end, HD.out]
          show some (decide _ && ((x :: r).take 2 == [116, 35])) = _
          rw [hF, Bool.and_false]
        have CT := Lib.hid (fun W => strings_HasPrefix.calls (s.extract p s.size) ⟨#[116, 35]⟩ false W hTp)
        have HT := Lib.hid hT
        clear hTp hF hT
        by_cases hL : letterB x = true
        · have CL := Lib.hid (fun W => lexis_isLetter.calls (x.toNat : Int) true W (by rw [isLetter_f, hL]))
          have HL := Lib.hid hL
          clear hL
          have CR : Hid (∀ W : World, wr.heap = W.heap → Below w0.heap.size w0 W → Calls Tryd.prog 56 #[.pointer (some ⟨g, 0, none⟩)] W (ReadPost w0 W g s p (tokL ((bl s).drop p)))) :=
            Lib.hid (fun W hW hB => read_word s p w0 W g hs ⟨hW ▸ HJ.out.2.1.1, HJ.out.2.1.2⟩ hB x r HD.out HT.out HL.out)
          have HB := Lib.hid (hJB _ _ HJ.out.1)
          gi_wp2
          gi_quiet (fail)
          gi_wp2
          gi_quiet (fail)
          gi_wp2
          gi_quiet (((first | refine ⟨trivial, wide_depth, ?_⟩ | refine ⟨wide_depth, ?_⟩ | skip); gi_at_call 53; refine (callsIn_wide.2 (CT.out _)).mono ?_; rintro e w' ⟨rfl, ⟨nd, rfl⟩⟩; first | exact ⟨rfl, _, World.drewN_drewN _ _ _⟩ | exact ⟨rfl, _, Eq.trans (World.drewN_drewN _ _ _) (congrArg (World.drewN _) (Nat.add_assoc _ _ _))⟩))
          gi_wp2_with (first | ((first | refine ⟨trivial, wide_depth, ?_⟩ | refine ⟨wide_depth, ?_⟩ | skip); gi_at_call 55; refine (callsIn_wide.2 (CL.out _)).mono ?_; rintro e w' ⟨rfl, ⟨nd, rfl⟩⟩; try simp only [World.drewN_drewN]) | ((first | refine ⟨trivial, wide_depth, ?_⟩ | refine ⟨wide_depth, ?_⟩ | skip); gi_at_call 56; refine (callsIn_wide.2 (CR.out _ (by rfl) (by exact pw_below_drewN HB.out _))).mono ?_; rintro e w2 ⟨rfl, hI2, hB2, hK2⟩; have hc2 := keep_blk hK2 (Ne.symm hne) HJ.out.2.2.1; have q0 := cellS52_0 hI2.1; have q1 := cellS52_1 hI2.1; have q2 := blk_frozen hI2.1 1; have q3 := cell0_of hc2; have q4 := IsS52.lt hI2; have q5 := lt_of_some hc2; have K2 := Lib.hid (And.intro hI2 (And.intro hB2 (And.intro hK2 hc2))); clear hI2 hB2 hK2 hc2))
          obtain ⟨hI2, hB2, hK2, hc2⟩ := K2.out
          have hJ2 := hJs _ _ _ HJ.out.1 (((Stays.of_drewN _ _ _).trans (stays_keep (own := fun k => k = g ∨ k = c) (.inl rfl) (pw_below_drewN HB.out _) hB2 hK2)).trans (Stays.alloc _ w2 (Obj.cells #[.int .i64 (tokL ((bl s).drop p)).1, .string ⟨(tokL ((bl s).drop p)).2.toArray⟩, .int .i64 (p : Int)] 33 (0, 0))))
          obtain ⟨fn_, tmps_, assign_, body_, hyy, hR⟩ := hY _ (itemAt s p) _ hJ2 (by have h9 := (rest_head (s := s) (f := gk) hlt).length_le; rw [HJ.out.2.2.2.1, List.length_append]; simp at h9; omega)
          simp only [encI, itemAt] at hyy
          rw [hyy]
          clear hyy
          refine ⟨wide_depth, hR.mono ?_⟩
          clear hR
          have hI3 : IsS52 w0 (w2.alloc (Obj.cells #[.int .i64 (tokL ((bl s).drop p)).1, .string ⟨(tokL ((bl s).drop p)).2.toArray⟩, .int .i64 (p : Int)] 33 (0, 0))) g s (p : Int) := ⟨(Below.heap_alloc _ _ _ q4).trans hI2.1, hI2.2⟩
          have hc3 : (w2.alloc (Obj.cells #[.int .i64 (tokL ((bl s).drop p)).1, .string ⟨(tokL ((bl s).drop p)).2.toArray⟩, .int .i64 (p : Int)] 33 (0, 0))).heap[c]? = some (.cells #[.pointer (some ⟨g, 0, none⟩)] 50 (0, 0)) := (Below.heap_alloc _ _ _ q5).trans hc2
          rintro e W' (⟨rfl, hJ', hk⟩ | ⟨rfl, hJx'⟩)
          · have hI4 : IsS52 w0 W' g s (p : Int) := ⟨(hk.mine g (.inl rfl)).trans hI3.1, hI3.2⟩
            have hc4 := (hk.mine c (.inr rfl)).trans hc3
            clear hI3 hc3 hk hJ2 q0 q1 q2 q3 q4 q5 hI2 hB2 hK2 hc2 K2
            have q0 := cellS52_0 hI4.1
            have q1 := cellS52_1 hI4.1
            have q2 := blk_frozen hI4.1 1
            have q3 := cell0_of hc4
            have q4 := IsS52.lt hI4
            have q5 := lt_of_some hc4
            have HN := Lib.hid (And.intro hJ' (And.intro hI4 hc4))
            clear hI4 hc4 hJ'
            by_cases hn : (tokL ((bl s).drop p)).2.length = 0
            · have e1 : (((tokL ((bl s).drop p)).2.length : Int) == 0) = true := by rw [hn]; rfl
              gi_wp2
              (try simp only [Exit.inBlock, Exit.then])
              refine bodyPost_ret (results_none rfl _ _ _) rfl ?_
              exact ⟨⟨_, rfl⟩, .inl ⟨pre ++ [itemAt s p], by rw [HJ.out.2.2.2.1, rest_nil hlt hn], HN.out.1⟩⟩
            · have e1 : (((tokL ((bl s).drop p)).2.length : Int) == 0) = false := by rw [beq_eq_false_iff_ne]; exact_mod_cast hn
              have hle : p + (tokL ((bl s).drop p)).2.length ≤ s.size := by have := tokL_len ((bl s).drop p); rw [List.length_drop, bl_length] at this; omega
              have CS : Hid (IsS52 w0 (W'.setCell ⟨g, 1, none⟩ (.int .i64 (wrap64 ((p : Int) + ((tokL ((bl s).drop p)).2.length : Int))))) g s ((p + (tokL ((bl s).drop p)).2.length : Nat) : Int) ∧
                  J (pre ++ [itemAt s p]) (W'.setCell ⟨g, 1, none⟩ (.int .i64 (wrap64 ((p : Int) + ((tokL ((bl s).drop p)).2.length : Int)))))) := by
                refine Lib.hid ⟨?_, hJs _ _ _ HN.out.1 (Stays.setCell _ _ _ (.inl rfl))⟩
                rw [w64 (by omega) (by omega), ← Int.natCast_add]
                exact HN.out.2.1.set_1 _
              clear hle
              gi_wp2_with (first | ((first | refine ⟨trivial, wide_depth, ?_⟩ | refine ⟨wide_depth, ?_⟩ | skip); gi_at_call 51; refine (callsIn_wide.2 (do_skip s (p + (tokL ((bl s).drop p)).2.length) w0 _ g hs CS.out.1 (hJB _ _ CS.out.2) (by have := tokL_len ((bl s).drop p); rw [List.length_drop, bl_length] at this; omega))).mono ?_; rintro e w3 ⟨rfl, hI5, hB5, hK5⟩))
              obtain ⟨k1, hk1, hr1⟩ := rest_cons hlt HJ.out.2.2.2.2.1 hn
              have hJ5 := hJs _ _ _ CS.out.2 (stays_keep (own := fun k => k = g ∨ k = c) (.inl rfl) (hJB _ _ CS.out.2) hB5 hK5)
              have hc5 := keep_blk hK5 (Ne.symm hne) ((set_other (p := ⟨g, 1, none⟩) (fun e => hne e)).trans HN.out.2.2)
              gi_roundg k1
              case measure => omega
              case rel =>
                refine ⟨pre ++ [itemAt s p], _, Lib.hid ⟨hJ5, hI5, hc5, ?_, ?_, ?_⟩⟩
                · rw [HJ.out.2.2.2.1, hr1, List.append_assoc]; rfl
                · have := HJ.out.2.2.2.2.1; omega
                · exact skip_in s _ (by have := tokL_len ((bl s).drop p); rw [List.length_drop, bl_length] at this; omega)
          · gi_wp2
            (try simp only [Exit.inBlock, Exit.then])
            refine bodyPost_ret (results_none rfl _ _ _) rfl ?_
            refine ⟨⟨_, rfl⟩, .inr ⟨pre ++ [itemAt s p], ?_, hJx'⟩⟩
            rw [HJ.out.2.2.2.1]
            exact (List.prefix_append_right_inj pre).2 (rest_head hlt)
        · have CL := Lib.hid (fun W => lexis_isLetter.calls (x.toNat : Int) false W (by rw [isLetter_f]; simpa using hL))
          have HL := Lib.hid (show letterB x = false by simpa using hL)
          clear hL
          by_cases hG2 : digitB x = true
          · have CD := Lib.hid (fun W => lexis_isDigit.calls (x.toNat : Int) true W (by rw [isDigit_f, hG2]))
            have HG2 := Lib.hid hG2
            clear hG2
            have CR : Hid (∀ W : World, wr.heap = W.heap → Below w0.heap.size w0 W → Calls Tryd.prog 58 #[.pointer (some ⟨g, 0, none⟩)] W (ReadPost w0 W g s p (tokL ((bl s).drop p)))) :=
              Lib.hid (fun W hW hB => read_num s p w0 W g hs hG ⟨hW ▸ HJ.out.2.1.1, HJ.out.2.1.2⟩ hB x r HD.out HL.out HG2.out)
            have HB := Lib.hid (hJB _ _ HJ.out.1)
            gi_wp2
            gi_quiet (fail)
            gi_wp2
            gi_quiet (fail)
            gi_wp2
            gi_quiet (((first | refine ⟨trivial, wide_depth, ?_⟩ | refine ⟨wide_depth, ?_⟩ | skip); gi_at_call 53; refine (callsIn_wide.2 (CT.out _)).mono ?_; rintro e w' ⟨rfl, ⟨nd, rfl⟩⟩; first | exact ⟨rfl, _, World.drewN_drewN _ _ _⟩ | exact ⟨rfl, _, Eq.trans (World.drewN_drewN _ _ _) (congrArg (World.drewN _) (Nat.add_assoc _ _ _))⟩))
            gi_wp2_with (first | ((first | refine ⟨trivial, wide_depth, ?_⟩ | refine ⟨wide_depth, ?_⟩ | skip); gi_at_call 55; refine (callsIn_wide.2 (CL.out _)).mono ?_; rintro e w' ⟨rfl, ⟨nd, rfl⟩⟩; try simp only [World.drewN_drewN]) | ((first | refine ⟨trivial, wide_depth, ?_⟩ | refine ⟨wide_depth, ?_⟩ | skip); gi_at_call 57; refine (callsIn_wide.2 (CD.out _)).mono ?_; rintro e w' ⟨rfl, ⟨nd, rfl⟩⟩; try simp only [World.drewN_drewN]) | ((first | refine ⟨trivial, wide_depth, ?_⟩ | refine ⟨wide_depth, ?_⟩ | skip); gi_at_call 58; refine (callsIn_wide.2 (CR.out _ (by rfl) (by exact pw_below_drewN HB.out _))).mono ?_; rintro e w2 ⟨rfl, hI2, hB2, hK2⟩; have hc2 := keep_blk hK2 (Ne.symm hne) HJ.out.2.2.1; have q0 := cellS52_0 hI2.1; have q1 := cellS52_1 hI2.1; have q2 := blk_frozen hI2.1 1; have q3 := cell0_of hc2; have q4 := IsS52.lt hI2; have q5 := lt_of_some hc2; have K2 := Lib.hid (And.intro hI2 (And.intro hB2 (And.intro hK2 hc2))); clear hI2 hB2 hK2 hc2))
            obtain ⟨hI2, hB2, hK2, hc2⟩ := K2.out
            have hJ2 := hJs _ _ _ HJ.out.1 (((Stays.of_drewN _ _ _).trans (stays_keep (own := fun k => k = g ∨ k = c) (.inl rfl) (pw_below_drewN HB.out _) hB2 hK2)).trans (Stays.alloc _ w2 (Obj.cells #[.int .i64 (tokL ((bl s).drop p)).1, .string ⟨(tokL ((bl s).drop p)).2.toArray⟩, .int .i64 (p : Int)] 33 (0, 0))))
            obtain ⟨fn_, tmps_, assign_, body_, hyy, hR⟩ := hY _ (itemAt s p) _ hJ2 (by have h9 := (rest_head (s := s) (f := gk) hlt).length_le; rw [HJ.out.2.2.2.1, List.length_append]; simp at h9; omega)
            simp only [encI, itemAt] at hyy
            rw [hyy]
            clear hyy
            refine ⟨wide_depth, hR.mono ?_⟩
            clear hR
            have hI3 : IsS52 w0 (w2.alloc (Obj.cells #[.int .i64 (tokL ((bl s).drop p)).1, .string ⟨(tokL ((bl s).drop p)).2.toArray⟩, .int .i64 (p : Int)] 33 (0, 0))) g s (p : Int) := ⟨(Below.heap_alloc _ _ _ q4).trans hI2.1, hI2.2⟩
            have hc3 : (w2.alloc (Obj.cells #[.int .i64 (tokL ((bl s).drop p)).1, .string ⟨(tokL ((bl s).drop p)).2.toArray⟩, .int .i64 (p : Int)] 33 (0, 0))).heap[c]? = some (.cells #[.pointer (some ⟨g, 0, none⟩)] 50 (0, 0)) := (Below.heap_alloc _ _ _ q5).trans hc2
            rintro e W' (⟨rfl, hJ', hk⟩ | ⟨rfl, hJx'⟩)
            · have hI4 : IsS52 w0 W' g s (p : Int) := ⟨(hk.mine g (.inl rfl)).trans hI3.1, hI3.2⟩
              have hc4 := (hk.mine c (.inr rfl)).trans hc3
              clear hI3 hc3 hk hJ2 q0 q1 q2 q3 q4 q5 hI2 hB2 hK2 hc2 K2
              have q0 := cellS52_0 hI4.1
              have q1 := cellS52_1 hI4.1
              have q2 := blk_frozen hI4.1 1
              have q3 := cell0_of hc4
              have q4 := IsS52.lt hI4
              have q5 := lt_of_some hc4
              have HN := Lib.hid (And.intro hJ' (And.intro hI4 hc4))
              clear hI4 hc4 hJ'
              by_cases hn : (tokL ((bl s).drop p)).2.length = 0
              · have e1 : (((tokL ((bl s).drop p)).2.length : Int) == 0) = true := by rw [hn]; rfl
                gi_wp2
                (try simp only [Exit.inBlock, Exit.then])
                refine bodyPost_ret (results_none rfl _ _ _) rfl ?_
                exact ⟨⟨_, rfl⟩, .inl ⟨pre ++ [itemAt s p], by rw [HJ.out.2.2.2.1, rest_nil hlt hn], HN.out.1⟩⟩
              · have e1 : (((tokL ((bl s).drop p)).2.length : Int) == 0) = false := by rw [beq_eq_false_iff_ne]; exact_mod_cast hn
                have hle : p + (tokL ((bl s).drop p)).2.length ≤ s.size := by have := tokL_len ((bl s).drop p); rw [List.length_drop, bl_length] at this; omega
                have CS : Hid (IsS52 w0 (W'.setCell ⟨g, 1, none⟩ (.int .i64 (wrap64 ((p : Int) + ((tokL ((bl s).drop p)).2.length : Int))))) g s ((p + (tokL ((bl s).drop p)).2.length : Nat) : Int) ∧
                    J (pre ++ [itemAt s p]) (W'.setCell ⟨g, 1, none⟩ (.int .i64 (wrap64 ((p : Int) + ((tokL ((bl s).drop p)).2.length : Int)))))) := by
                  refine Lib.hid ⟨?_, hJs _ _ _ HN.out.1 (Stays.setCell _ _ _ (.inl rfl))⟩
                  rw [w64 (by omega) (by omega), ← Int.natCast_add]
                  exact HN.out.2.1.set_1 _
                clear hle
                gi_wp2_with (first | ((first | refine ⟨trivial, wide_depth, ?_⟩ | refine ⟨wide_depth, ?_⟩ | skip); gi_at_call 51; refine (callsIn_wide.2 (do_skip s (p + (tokL ((bl s).drop p)).2.length) w0 _ g hs CS.out.1 (hJB _ _ CS.out.2) (by have := tokL_len ((bl s).drop p); rw [List.length_drop, bl_length] at this; omega))).mono ?_; rintro e w3 ⟨rfl, hI5, hB5, hK5⟩))
                obtain ⟨k1, hk1, hr1⟩ := rest_cons hlt HJ.out.2.2.2.2.1 hn
                have hJ5 := hJs _ _ _ CS.out.2 (stays_keep (own := fun k => k = g ∨ k = c) (.inl rfl) (hJB _ _ CS.out.2) hB5 hK5)
                have hc5 := keep_blk hK5 (Ne.symm hne) ((set_other (p := ⟨g, 1, none⟩) (fun e => hne e)).trans HN.out.2.2)
                gi_roundg k1
                case measure => omega
                case rel =>
                  refine ⟨pre ++ [itemAt s p], _, Lib.hid ⟨hJ5, hI5, hc5, ?_, ?_, ?_⟩⟩
                  · rw [HJ.out.2.2.2.1, hr1, List.append_assoc]; rfl
                  · have := HJ.out.2.2.2.2.1; omega
                  · exact skip_in s _ (by have := tokL_len ((bl s).drop p); rw [List.length_drop, bl_length] at this; omega)
            · gi_wp2
              (try simp only [Exit.inBlock, Exit.then])
              refine bodyPost_ret (results_none rfl _ _ _) rfl ?_
              refine ⟨⟨_, rfl⟩, .inr ⟨pre ++ [itemAt s p], ?_, hJx'⟩⟩
              rw [HJ.out.2.2.2.1]
              exact (List.prefix_append_right_inj pre).2 (rest_head hlt)
          · have CD := Lib.hid (fun W => lexis_isDigit.calls (x.toNat : Int) false W (by rw [isDigit_f]; simpa using hG2))
            have HG2 := Lib.hid (show digitB x = false by simpa using hG2)
            clear hG2
            by_cases hC : x = 37
            · have e0 : ((x.toNat : Int) == 37) = true := by rw [hC]; rfl
              have HC := Lib.hid hC
              clear hC
              have CR : Hid (∀ W : World, wr.heap = W.heap → Below w0.heap.size w0 W → Calls Tryd.prog 59 #[.pointer (some ⟨g, 0, none⟩)] W (ReadPost w0 W g s p (tokL ((bl s).drop p)))) :=
                Lib.hid (fun W hW hB => read_addr s p w0 W g hs hG ⟨hW ▸ HJ.out.2.1.1, HJ.out.2.1.2⟩ hB r (by rw [HD.out, HC.out]))
              have HB := Lib.hid (hJB _ _ HJ.out.1)
              gi_wp2
              gi_quiet (fail)
              gi_wp2
              gi_quiet (fail)
              gi_wp2
              gi_quiet (((first | refine ⟨trivial, wide_depth, ?_⟩ | refine ⟨wide_depth, ?_⟩ | skip); gi_at_call 53; refine (callsIn_wide.2 (CT.out _)).mono ?_; rintro e w' ⟨rfl, ⟨nd, rfl⟩⟩; first | exact ⟨rfl, _, World.drewN_drewN _ _ _⟩ | exact ⟨rfl, _, Eq.trans (World.drewN_drewN _ _ _) (congrArg (World.drewN _) (Nat.add_assoc _ _ _))⟩))
              gi_wp2_with (first | ((first | refine ⟨trivial, wide_depth, ?_⟩ | refine ⟨wide_depth, ?_⟩ | skip); gi_at_call 55; refine (callsIn_wide.2 (CL.out _)).mono ?_; rintro e w' ⟨rfl, ⟨nd, rfl⟩⟩; try simp only [World.drewN_drewN]) | ((first | refine ⟨trivial, wide_depth, ?_⟩ | refine ⟨wide_depth, ?_⟩ | skip); gi_at_call 57; refine (callsIn_wide.2 (CD.out _)).mono ?_; rintro e w' ⟨rfl, ⟨nd, rfl⟩⟩; try simp only [World.drewN_drewN]) | ((first | refine ⟨trivial, wide_depth, ?_⟩ | refine ⟨wide_depth, ?_⟩ | skip); gi_at_call 59; refine (callsIn_wide.2 (CR.out _ (by rfl) (by exact pw_below_drewN HB.out _))).mono ?_; rintro e w2 ⟨rfl, hI2, hB2, hK2⟩; have hc2 := keep_blk hK2 (Ne.symm hne) HJ.out.2.2.1; have q0 := cellS52_0 hI2.1; have q1 := cellS52_1 hI2.1; have q2 := blk_frozen hI2.1 1; have q3 := cell0_of hc2; have q4 := IsS52.lt hI2; have q5 := lt_of_some hc2; have K2 := Lib.hid (And.intro hI2 (And.intro hB2 (And.intro hK2 hc2))); clear hI2 hB2 hK2 hc2))
              obtain ⟨hI2, hB2, hK2, hc2⟩ := K2.out
              have hJ2 := hJs _ _ _ HJ.out.1 (((Stays.of_drewN _ _ _).trans (stays_keep (own := fun k => k = g ∨ k = c) (.inl rfl) (pw_below_drewN HB.out _) hB2 hK2)).trans (Stays.alloc _ w2 (Obj.cells #[.int .i64 (tokL ((bl s).drop p)).1, .string ⟨(tokL ((bl s).drop p)).2.toArray⟩, .int .i64 (p : Int)] 33 (0, 0))))
              obtain ⟨fn_, tmps_, assign_, body_, hyy, hR⟩ := hY _ (itemAt s p) _ hJ2 (by have h9 := (rest_head (s := s) (f := gk) hlt).length_le; rw [HJ.out.2.2.2.1, List.length_append]; simp at h9; omega)
              simp only [encI, itemAt] at hyy
              rw [hyy]
              clear hyy
              refine ⟨wide_depth, hR.mono ?_⟩
              clear hR
              have hI3 : IsS52 w0 (w2.alloc (Obj.cells #[.int .i64 (tokL ((bl s).drop p)).1, .string ⟨(tokL ((bl s).drop p)).2.toArray⟩, .int .i64 (p : Int)] 33 (0, 0))) g s (p : Int) := ⟨(Below.heap_alloc _ _ _ q4).trans hI2.1, hI2.2⟩
              have hc3 : (w2.alloc (Obj.cells #[.int .i64 (tokL ((bl s).drop p)).1, .string ⟨(tokL ((bl s).drop p)).2.toArray⟩, .int .i64 (p : Int)] 33 (0, 0))).heap[c]? = some (.cells #[.pointer (some ⟨g, 0, none⟩)] 50 (0, 0)) := (Below.heap_alloc _ _ _ q5).trans hc2
              rintro e W' (⟨rfl, hJ', hk⟩ | ⟨rfl, hJx'⟩)
              · have hI4 : IsS52 w0 W' g s (p : Int) := ⟨(hk.mine g (.inl rfl)).trans hI3.1, hI3.2⟩
                have hc4 := (hk.mine c (.inr rfl)).trans hc3
                clear hI3 hc3 hk hJ2 q0 q1 q2 q3 q4 q5 hI2 hB2 hK2 hc2 K2
                have q0 := cellS52_0 hI4.1
                have q1 := cellS52_1 hI4.1
                have q2 := blk_frozen hI4.1 1
                have q3 := cell0_of hc4
                have q4 := IsS52.lt hI4
                have q5 := lt_of_some hc4
                have HN := Lib.hid (And.intro hJ' (And.intro hI4 hc4))
                clear hI4 hc4 hJ'
                by_cases hn : (tokL ((bl s).drop p)).2.length = 0
                · have e1 : (((tokL ((bl s).drop p)).2.length : Int) == 0) = true := by rw [hn]; rfl
                  gi_wp2
                  (try simp only [Exit.inBlock, Exit.then])
                  refine bodyPost_ret (results_none rfl _ _ _) rfl ?_
                  exact ⟨⟨_, rfl⟩, .inl ⟨pre ++ [itemAt s p], by rw [HJ.out.2.2.2.1, rest_nil hlt hn], HN.out.1⟩⟩
                · have e1 : (((tokL ((bl s).drop p)).2.length : Int) == 0) = false := by rw [beq_eq_false_iff_ne]; exact_mod_cast hn
                  have hle : p + (tokL ((bl s).drop p)).2.length ≤ s.size := by have := tokL_len ((bl s).drop p); rw [List.length_drop, bl_length] at this; omega
                  have CS : Hid (IsS52 w0 (W'.setCell ⟨g, 1, none⟩ (.int .i64 (wrap64 ((p : Int) + ((tokL ((bl s).drop p)).2.length : Int))))) g s ((p + (tokL ((bl s).drop p)).2.length : Nat) : Int) ∧
                      J (pre ++ [itemAt s p]) (W'.setCell ⟨g, 1, none⟩ (.int .i64 (wrap64 ((p : Int) + ((tokL ((bl s).drop p)).2.length : Int)))))) := by
                    refine Lib.hid ⟨?_, hJs _ _ _ HN.out.1 (Stays.setCell _ _ _ (.inl rfl))⟩
                    rw [w64 (by omega) (by omega), ← Int.natCast_add]
                    exact HN.out.2.1.set_1 _
                  clear hle
                  gi_wp2_with (first | ((first | refine ⟨trivial, wide_depth, ?_⟩ | refine ⟨wide_depth, ?_⟩ | skip); gi_at_call 51; refine (callsIn_wide.2 (do_skip s (p + (tokL ((bl s).drop p)).2.length) w0 _ g hs CS.out.1 (hJB _ _ CS.out.2) (by have := tokL_len ((bl s).drop p); rw [List.length_drop, bl_length] at this; omega))).mono ?_; rintro e w3 ⟨rfl, hI5, hB5, hK5⟩))
                  obtain ⟨k1, hk1, hr1⟩ := rest_cons hlt HJ.out.2.2.2.2.1 hn
                  have hJ5 := hJs _ _ _ CS.out.2 (stays_keep (own := fun k => k = g ∨ k = c) (.inl rfl) (hJB _ _ CS.out.2) hB5 hK5)
                  have hc5 := keep_blk hK5 (Ne.symm hne) ((set_other (p := ⟨g, 1, none⟩) (fun e => hne e)).trans HN.out.2.2)
                  gi_roundg k1
                  case measure => omega
                  case rel =>
                    refine ⟨pre ++ [itemAt s p], _, Lib.hid ⟨hJ5, hI5, hc5, ?_, ?_, ?_⟩⟩
                    · rw [HJ.out.2.2.2.1, hr1, List.append_assoc]; rfl
                    · have := HJ.out.2.2.2.2.1; omega
                    · exact skip_in s _ (by have := tokL_len ((bl s).drop p); rw [List.length_drop, bl_length] at this; omega)
              · gi_wp2
                (try simp only [Exit.inBlock, Exit.then])
                refine bodyPost_ret (results_none rfl _ _ _) rfl ?_
                refine ⟨⟨_, rfl⟩, .inr ⟨pre ++ [itemAt s p], ?_, hJx'⟩⟩
                rw [HJ.out.2.2.2.1]
                exact (List.prefix_append_right_inj pre).2 (rest_head hlt)
            · have e0 : ((x.toNat : Int) == 37) = false := by
                rw [beq_eq_false_iff_ne]
                intro h
                exact hC (UInt8.toNat_inj.1 (by exact_mod_cast h))
              have HC := Lib.hid hC
              clear hC
              have CR : Hid (∀ W : World, wr.heap = W.heap → Below w0.heap.size w0 W → Calls Tryd.prog 52 #[.pointer (some ⟨g, 0, none⟩)] W (ReadPost w0 W g s p (tokL ((bl s).drop p)))) :=
                Lib.hid (fun W hW hB => read_sign s p w0 W g hs ⟨hW ▸ HJ.out.2.1.1, HJ.out.2.1.2⟩ hB x r HD.out HL.out HG2.out HC.out)
              have HB := Lib.hid (hJB _ _ HJ.out.1)
              gi_wp2
              gi_quiet (fail)
              gi_wp2
              gi_quiet (fail)
              gi_wp2
              gi_quiet (((first | refine ⟨trivial, wide_depth, ?_⟩ | refine ⟨wide_depth, ?_⟩ | skip); gi_at_call 53; refine (callsIn_wide.2 (CT.out _)).mono ?_; rintro e w' ⟨rfl, ⟨nd, rfl⟩⟩; first | exact ⟨rfl, _, World.drewN_drewN _ _ _⟩ | exact ⟨rfl, _, Eq.trans (World.drewN_drewN _ _ _) (congrArg (World.drewN _) (Nat.add_assoc _ _ _))⟩))
              gi_wp2_with (first | ((first | refine ⟨trivial, wide_depth, ?_⟩ | refine ⟨wide_depth, ?_⟩ | skip); gi_at_call 55; refine (callsIn_wide.2 (CL.out _)).mono ?_; rintro e w' ⟨rfl, ⟨nd, rfl⟩⟩; try simp only [World.drewN_drewN]) | ((first | refine ⟨trivial, wide_depth, ?_⟩ | refine ⟨wide_depth, ?_⟩ | skip); gi_at_call 57; refine (callsIn_wide.2 (CD.out _)).mono ?_; rintro e w' ⟨rfl, ⟨nd, rfl⟩⟩; try simp only [World.drewN_drewN]) | ((first | refine ⟨trivial, wide_depth, ?_⟩ | refine ⟨wide_depth, ?_⟩ | skip); gi_at_call 52; refine (callsIn_wide.2 (CR.out _ (by rfl) (by exact pw_below_drewN HB.out _))).mono ?_; rintro e w2 ⟨rfl, hI2, hB2, hK2⟩; have hc2 := keep_blk hK2 (Ne.symm hne) HJ.out.2.2.1; have q0 := cellS52_0 hI2.1; have q1 := cellS52_1 hI2.1; have q2 := blk_frozen hI2.1 1; have q3 := cell0_of hc2; have q4 := IsS52.lt hI2; have q5 := lt_of_some hc2; have K2 := Lib.hid (And.intro hI2 (And.intro hB2 (And.intro hK2 hc2))); clear hI2 hB2 hK2 hc2))
              obtain ⟨hI2, hB2, hK2, hc2⟩ := K2.out
              have hJ2 := hJs _ _ _ HJ.out.1 (((Stays.of_drewN _ _ _).trans (stays_keep (own := fun k => k = g ∨ k = c) (.inl rfl) (pw_below_drewN HB.out _) hB2 hK2)).trans (Stays.alloc _ w2 (Obj.cells #[.int .i64 (tokL ((bl s).drop p)).1, .string ⟨(tokL ((bl s).drop p)).2.toArray⟩, .int .i64 (p : Int)] 33 (0, 0))))
              obtain ⟨fn_, tmps_, assign_, body_, hyy, hR⟩ := hY _ (itemAt s p) _ hJ2 (by have h9 := (rest_head (s := s) (f := gk) hlt).length_le; rw [HJ.out.2.2.2.1, List.length_append]; simp at h9; omega)
              simp only [encI, itemAt] at hyy
              rw [hyy]
              clear hyy
              refine ⟨wide_depth, hR.mono ?_⟩
              clear hR
              have hI3 : IsS52 w0 (w2.alloc (Obj.cells #[.int .i64 (tokL ((bl s).drop p)).1, .string ⟨(tokL ((bl s).drop p)).2.toArray⟩, .int .i64 (p : Int)] 33 (0, 0))) g s (p : Int) := ⟨(Below.heap_alloc _ _ _ q4).trans hI2.1, hI2.2⟩
              have hc3 : (w2.alloc (Obj.cells #[.int .i64 (tokL ((bl s).drop p)).1, .string ⟨(tokL ((bl s).drop p)).2.toArray⟩, .int .i64 (p : Int)] 33 (0, 0))).heap[c]? = some (.cells #[.pointer (some ⟨g, 0, none⟩)] 50 (0, 0)) := (Below.heap_alloc _ _ _ q5).trans hc2
              rintro e W' (⟨rfl, hJ', hk⟩ | ⟨rfl, hJx'⟩)
              · have hI4 : IsS52 w0 W' g s (p : Int) := ⟨(hk.mine g (.inl rfl)).trans hI3.1, hI3.2⟩
                have hc4 := (hk.mine c (.inr rfl)).trans hc3
                clear hI3 hc3 hk hJ2 q0 q1 q2 q3 q4 q5 hI2 hB2 hK2 hc2 K2
                have q0 := cellS52_0 hI4.1
                have q1 := cellS52_1 hI4.1
                have q2 := blk_frozen hI4.1 1
                have q3 := cell0_of hc4
                have q4 := IsS52.lt hI4
                have q5 := lt_of_some hc4
                have HN := Lib.hid (And.intro hJ' (And.intro hI4 hc4))
                clear hI4 hc4 hJ'
                by_cases hn : (tokL ((bl s).drop p)).2.length = 0
                · have e1 : (((tokL ((bl s).drop p)).2.length : Int) == 0) = true := by rw [hn]; rfl
                  gi_wp2
                  (try simp only [Exit.inBlock, Exit.then])
                  refine bodyPost_ret (results_none rfl _ _ _) rfl ?_
                  exact ⟨⟨_, rfl⟩, .inl ⟨pre ++ [itemAt s p], by rw [HJ.out.2.2.2.1, rest_nil hlt hn], HN.out.1⟩⟩
                · have e1 : (((tokL ((bl s).drop p)).2.length : Int) == 0) = false := by rw [beq_eq_false_iff_ne]; exact_mod_cast hn
                  have hle : p + (tokL ((bl s).drop p)).2.length ≤ s.size := by have := tokL_len ((bl s).drop p); rw [List.length_drop, bl_length] at this; omega
                  have CS : Hid (IsS52 w0 (W'.setCell ⟨g, 1, none⟩ (.int .i64 (wrap64 ((p : Int) + ((tokL ((bl s).drop p)).2.length : Int))))) g s ((p + (tokL ((bl s).drop p)).2.length : Nat) : Int) ∧
                      J (pre ++ [itemAt s p]) (W'.setCell ⟨g, 1, none⟩ (.int .i64 (wrap64 ((p : Int) + ((tokL ((bl s).drop p)).2.length : Int)))))) := by
                    refine Lib.hid ⟨?_, hJs _ _ _ HN.out.1 (Stays.setCell _ _ _ (.inl rfl))⟩
                    rw [w64 (by omega) (by omega), ← Int.natCast_add]
                    exact HN.out.2.1.set_1 _
                  clear hle
                  gi_wp2_with (first | ((first | refine ⟨trivial, wide_depth, ?_⟩ | refine ⟨wide_depth, ?_⟩ | skip); gi_at_call 51; refine (callsIn_wide.2 (do_skip s (p + (tokL ((bl s).drop p)).2.length) w0 _ g hs CS.out.1 (hJB _ _ CS.out.2) (by have := tokL_len ((bl s).drop p); rw [List.length_drop, bl_length] at this; omega))).mono ?_; rintro e w3 ⟨rfl, hI5, hB5, hK5⟩))
                  obtain ⟨k1, hk1, hr1⟩ := rest_cons hlt HJ.out.2.2.2.2.1 hn
                  have hJ5 := hJs _ _ _ CS.out.2 (stays_keep (own := fun k => k = g ∨ k = c) (.inl rfl) (hJB _ _ CS.out.2) hB5 hK5)
                  have hc5 := keep_blk hK5 (Ne.symm hne) ((set_other (p := ⟨g, 1, none⟩) (fun e => hne e)).trans HN.out.2.2)
                  gi_roundg k1
                  case measure => omega
                  case rel =>
                    refine ⟨pre ++ [itemAt s p], _, Lib.hid ⟨hJ5, hI5, hc5, ?_, ?_, ?_⟩⟩
                    · rw [HJ.out.2.2.2.1, hr1, List.append_assoc]; rfl
                    · have := HJ.out.2.2.2.2.1; omega
                    · exact skip_in s _ (by have := tokL_len ((bl s).drop p); rw [List.length_drop, bl_length] at this; omega)
              · gi_wp2
                (try simp only [Exit.inBlock, Exit.then])
                refine bodyPost_ret (results_none rfl _ _ _) rfl ?_
                refine ⟨⟨_, rfl⟩, .inr ⟨pre ++ [itemAt s p], ?_, hJx'⟩⟩
                rw [HJ.out.2.2.2.1]
                exact (List.prefix_append_right_inj pre).2 (rest_head hlt)
    · have t1 : decide (p < s.size) = false := by simpa using hlt
      gi_wp2
      gi_quiet (fail)
      all_goals gi_wp2
      go_end0
      obtain ⟨hJ, hI, hc, hE', hf, hp⟩ := HJ.out
      have hr : rest s p gk = [] := by
        unfold rest
        rw [List.drop_eq_nil_of_le (by rw [bl_length]; omega)]
        rfl
      exact ⟨⟨_, rfl⟩, .inl ⟨pre, by rw [hE', hr, List.append_nil], hJs _ _ _ hJ (Stays.of_drewN _ _ _)⟩⟩
end Go.Proofs.YtlbaojjnilnhlaaDoor.PA
