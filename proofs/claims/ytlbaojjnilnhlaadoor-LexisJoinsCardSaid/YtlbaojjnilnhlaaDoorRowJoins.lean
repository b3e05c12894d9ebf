/-
  The row and the tied card of winchlaw01.LexisJoins: out of its plain law and the printed walk.
-/
import Derived.Test.YtlbaojjnilnhlaaDoorLay
import Derived.Test.YtlbaojjnilnhlaaDoorTie
import Derived.Test.YtlbaojjnilnhlaaDoorCards
import Derived.Test.YtlbaojjnilnhlaaDoorJoins
import Derived.Test.YtlbaojjnilnhlaaDoorPAx26
import Derived.WalkKit
import Derived.Deep.Slices
import Derived.Deep.Fields
import Derived.ChangeSame
import Derived.Carry
import Derived.ProofKit
import Derived.OpenShut
import Derived.ShutString
import Derived.ChangeOld
import Derived.Below
import Derived.SizedLaws
import Derived.Stop.Joined
import Derived.SevenTiedAt
namespace Go.Proofs.YtlbaojjnilnhlaaDoor.lexisJoins
open Go Go.ChangeShapes Go.WideShapes Go.ChangeAt Go.RowKit Go.Proofs.YtlbaojjnilnhlaaDoor.PA
open Go.ChangeMaps (open_string shut_string)
open Go.Deep Go.Proofs.YtlbaojjnilnhlaaDoorW.PrintWords
set_option linter.unusedVariables false
set_option linter.unusedSimpArgs false
section
variable {H : Type} {enc : TypeId × Value → H} {P : Program} {w : World} {base : Nat} {spare : Nat → Bool} {held : Bool}
/-- A slice of structs of one-cell fields, opened (as the guide's page on structs tells it). -/
theorem open_rows {t e : TypeId} {fs : Array Field} {fuel : Nat} {cs : List Value} {x : DataW H × List MemPlace} (ht : P.underlying t = some (.slice e)) (he : P.underlying e = some (.struct fs))
    (hone : oneCellFields P fs = true) (hC : P.cellsOf e = fs.size) (h : DataW.trod enc P w base spare held fuel t cs = some x) :
    (cs = [.slice none 0 0] ∧ x.1 = .nil) ∨
    ∃ (a : Addr) (len cap m : Nat) (D : Nat → DataW H), cs = [.slice (some a) len cap] ∧ len ≤ cap ∧ cap ≤ maxLen ∧ m = (if spare a.block then cap else len) ∧
      x.1 = .slice ((List.range len).map D) ((List.range (m - len)).map fun j => D (len + j)) ∧
      ∀ i, i < m → ∃ (ys : List (DataW H × List MemPlace)) (n : Nat), D i = .agg (ys.map (·.1)) ∧ ys.length = fs.size ∧
        ∀ (j : Nat) (f : Field), fs[j]? = some f → ∃ (v : Value) (y : DataW H × List MemPlace), w.cell? (a.add (i * fs.size + j)) = some v ∧ ys[j]? = some y ∧ DataW.trod enc P w base spare held n f.type [v] = some y := by
  rcases open_slice ht h with ⟨h0, h1⟩ | ⟨a, len, cap, m, n, D, Pl, hcs, hb, hl, hm, hmm, hx, hi⟩
  · exact .inl ⟨h0, by rw [h1]⟩
  · refine .inr ⟨a, len, cap, m, D, hcs, hl, hm, hmm, by rw [hx], fun i him => ?_⟩
    obtain ⟨cs', hc, ht'⟩ := hi i him
    rw [hC] at hc
    obtain ⟨ys, n', hn', hy, hlen, hyl, hf⟩ := DataW.trod_struct he ht'
    obtain ⟨_, hcl, hat⟩ := World.cells?_some hc
    simp only [Prod.mk.injEq] at hy
    refine ⟨ys, n', hy.1, hyl, fun j f hj => ?_⟩
    obtain ⟨ho, hk⟩ := hone_of hone j f hj
    have hjl : j < fs.size := (Array.getElem?_eq_some_iff.1 hj).1
    have hcell := hat j hjl
    have hv : cs'[j]? = some (cs'[j]'(by omega)) := List.getElem?_eq_getElem (by omega)
    have h1 := hf j f hj
    rw [ho, hk] at h1
    have hone' : (cs'.drop j).take 1 = [cs'[j]'(by omega)] := by
      rw [List.drop_eq_getElem_cons (by omega)]
      rfl
    rw [hone'] at h1
    have hys : ys[j]? = some (ys[j]'(by omega)) := List.getElem?_eq_getElem (by omega)
    refine ⟨_, _, ?_, hys, h1.trans hys⟩
    rw [← Go.Deep.add_add, hcell, hv]
end
section
variable {H : Type} {enc : TypeId × Value → H} {W : World}
/-- What a token reads as. -/
def tokD (x : S33) : DataW H := .agg [.lit (.int .i64 x.f0), .lit (.string (bl x.f1)), .lit (.int .i64 x.f2)]
theorem toks_open {fuel : Nat} {cs : List Value} {x : DataW H × List MemPlace} (h : DataW.trod enc Tryd.prog W 0 (fun _ => true) true fuel 23 cs = some x) :
    ∃ (A : Option Addr) (l : List S33) (c : Nat), cs = [.slice A l.length c] ∧ l.length ≤ c ∧ Kd.C k33 W A l.length l ∧ ((x.1 = .nil ∧ l = []) ∨ ∃ sp, x.1 = .slice (l.map tokD) sp) := by
  rcases open_rows Tryd.underlying23 Tryd.underlying33 (by kernel_rfl) (by kernel_rfl) h with ⟨h0, h1⟩ | ⟨a, len, cap, m, D, hcs, hl, hm, hmm, hx, hi⟩
  · exact ⟨none, [], 0, h0, Nat.le_refl _, ⟨rfl, by simp, fun h => absurd h (by simp)⟩, .inl ⟨h1, rfl⟩⟩
  · have hmm' : m = cap := by rw [hmm]; rfl
    haveI : Inhabited S33 := ⟨⟨0, ⟨#[]⟩, 0⟩⟩
    obtain ⟨g, hg⟩ := choose_lt (n := len) (p := fun i (y : S33) => D i = tokD y ∧ W.cell? (a.add (i * 3 + 0)) = some (.int .i64 y.f0) ∧ W.cell? (a.add (i * 3 + 1)) = some (.string y.f1) ∧ W.cell? (a.add (i * 3 + 2)) = some (.int .i64 y.f2)) (fun i hlt => by
      obtain ⟨ys, n, hD, hyl, hf⟩ := hi i (by omega)
      obtain ⟨v0, y0, c0, e0, t0⟩ := hf 0 _ rfl
      obtain ⟨v1, y1, c1, e1, t1⟩ := hf 1 _ rfl
      obtain ⟨v2, y2, c2, e2, t2⟩ := hf 2 _ rfl
      obtain ⟨z0, g0, k0, _⟩ := DataW.trod_int Tryd.underlying3 t0
      obtain ⟨z1, g1, k1, _⟩ := DataW.trod_string Tryd.underlying9 t1
      obtain ⟨z2, g2, k2, _⟩ := DataW.trod_int Tryd.underlying3 t2
      obtain rfl : v0 = _ := List.head_eq_of_cons_eq g0
      obtain rfl : v1 = _ := List.head_eq_of_cons_eq g1
      obtain rfl : v2 = _ := List.head_eq_of_cons_eq g2
      refine ⟨⟨z0, z1, z2⟩, ?_, c0, c1, c2⟩
      rw [hD]
      match ys, hyl with
      | [q0, q1, q2], _ =>
        obtain rfl : q0 = y0 := Option.some.inj e0
        obtain rfl : q1 = y1 := Option.some.inj e1
        obtain rfl : q2 = y2 := Option.some.inj e2
        subst k0 k1 k2
        rfl)
    have hlen : ((List.range len).map g).length = len := by simp
    refine ⟨some a, (List.range len).map g, cap, by rw [hlen]; exact hcs, by rw [hlen]; exact hl, ?_, .inr ⟨_, by rw [hx, List.map_map]; congr 1; exact List.map_congr_left fun i hi' => (hg i (List.mem_range.1 hi')).1⟩⟩
    rw [hlen]
    refine ⟨hlen, by have : cap ≤ maxLen := hm; simp only [maxLen] at this; omega, fun _ => ⟨a, rfl, fun j p hj => ?_⟩⟩
    rw [List.getElem?_map] at hj
    obtain ⟨i, hi', rfl⟩ := Option.map_eq_some_iff.1 hj
    have hjl : j < len := by have := (List.getElem?_eq_some_iff.1 hi').1; simpa using this
    obtain rfl : j = i := by rw [List.getElem?_range hjl] at hi'; exact Option.some.inj hi'
    obtain ⟨_, b0, b1, b2⟩ := hg j hjl
    refine ⟨[.int .i64 (g j).f0, .string (g j).f1, .int .i64 (g j).f2], rfl, k33_mk W (g j), fun i u hu => ?_⟩
    match i, hu with
    | 0, hu => obtain rfl := Option.some.inj hu; exact b0
    | 1, hu => obtain rfl := Option.some.inj hu; exact b1
    | 2, hu => obtain rfl := Option.some.inj hu; exact b2
    | n + 3, hu => simp at hu
theorem all_mem {e : TypeId} {n : Nat} : ∀ {l : List (DataW H)} {d : DataW H}, d ∈ l → n ∈ d.weights Tryd.prog e → n ∈ DataW.weightsAll Tryd.prog e l := by
  intro l
  induction l with
  | nil => intro d h; exact absurd h (by simp)
  | cons y l ih =>
    intro d h hn
    rw [DataW.weightsAll]
    rcases List.mem_cons.1 h with rfl | h
    · exact List.mem_append_left _ hn
    · exact List.mem_append_right _ (ih h hn)
theorem tok_weight (x : S33) : x.f1.size ∈ (tokD x : DataW H).weights Tryd.prog 33 := by
  unfold tokD
  simp [DataW.weights, Tryd.underlying33, DataW.weightsEach]
theorem toks_small {l : List S33} {sp : List (DataW H)} (h : (DataW.weightsEach Tryd.prog [23] [.slice (l.map tokD) sp]).all (· ≤ reachBytes) = true) : ∀ x ∈ l, x.f1.size ≤ 140737488355328 := by
  intro x hx
  have hm : x.f1.size ∈ DataW.weightsEach Tryd.prog [23] [(.slice (l.map tokD) sp : DataW H)] := by
    refine DataW.weights_mem_each (j := 0) rfl rfl _ ?_
    simp only [DataW.weights, Tryd.underlying23]
    exact List.mem_cons_of_mem _ (List.mem_append_left _ (all_mem (List.mem_map_of_mem hx) (tok_weight x)))
  have := List.all_eq_true.1 h _ hm
  have h2 : x.f1.size ≤ reachBytes := by simpa using this
  have h3 : reachBytes < 2 ^ 47 := reachBytes_lt
  omega
end
set_option maxRecDepth 100000 in
theorem lifted (os : Os) (started : os.Started) (H : Type) (enc : TypeId × Value → H) :
    ReturnsInHanded {} Tryd.checked os 7 .any (fun w args => (Rows.lexisJoinsSpec.pre enc Tryd.prog Tryd.f7 [] false w args ∧ laidMet Tryd.prog five w) ∧ sizedMet enc Tryd.prog Tryd.f7 (OpenSpec.ofChange Rows.lexisJoinsSpec) false w args)
      (Rows.lexisJoinsSpec.post enc Tryd.prog Tryd.f7 false true false false) := by
  refine returnsInHanded_of_change_and (C := Tryd.checked) (X := fun w _ => laidMet Tryd.prog five w) (fun _ _ _ hh h => h.of_heap hh) own started (by kernel_rfl) Tryd.func7
    (ChangeSpec.witness_shaped (enc := enc) (C := Tryd.checked) (os := os) (X := fun w _ => laidMet Tryd.prog five w) false (World.doorLaid Tryd.prog 86 os) #[.slice none 0 0] 8 rfl (World.shaped_of_RefB (by kernel_rfl) (by kernel_rfl)) (by kernel_rfl) (by kernel_rfl) (by kernel_rfl) (door_five os _)) ?_
  intro W base args ds gs before hval0 hW _ hsz0 hL _
  have hsz : (DataW.weightsEach Tryd.prog (Tryd.f7.params.toList ++ Rows.lexisJoinsSpec.plain.varTypes Tryd.prog) (ds ++ gs)).all (· ≤ reachBytes) = true := hsz0
  have hval : ∀ (j : Nat) t v, Tryd.f7.params[j]? = some t → args[j]? = some v → Value.okWide Tryd.prog W .any base t v := hval0
  have hW' := hW
  obtain ⟨p, q, hA0, hV, rfl, hfz, hnd⟩ := hW
  have hA : DataW.TrodAll enc Tryd.prog W 0 (fun _ => true) true Tryd.f7.params.toList args.toList ds p := hA0
  rw [Tryd.params7] at hA hval hsz
  obtain ⟨v0, vs0, d0, ds0, p0, q0, hargs, rfl, rfl, h0, r0⟩ := trodAll_cons hA
  obtain ⟨rfl, rfl, rfl⟩ := trodAll_nil r0
  obtain rfl : args = #[v0] := by cases args; simp_all
  obtain ⟨rfl, rfl⟩ := trodVars_none hV
  obtain ⟨fuel, hf⟩ := h0
  obtain ⟨b0, len0, cap0, rfl⟩ := okWide_slice Tryd.underlying23 (hval 0 23 v0 rfl rfl)
  obtain ⟨A, l, c, hcs, hc, hC, hd⟩ := toks_open hf
  have hv : Value.slice b0 len0 cap0 = .slice A l.length c := List.head_eq_of_cons_eq hcs
  have hz : ∀ x ∈ l, x.f1.size ≤ 140737488355328 := by
    rcases hd with ⟨_, rfl⟩ | ⟨sp, hd⟩
    · intro x hx; exact absurd hx (by simp)
    · have hd' : d0 = .slice (l.map tokD) sp := hd
      subst hd'
      exact toks_small hsz
  obtain ⟨k, hk⟩ := LexisJoins_pure l hz
  have hlt := DataW.trod_lt _ _ _ _ hf
  clear hA0 hval0 hsz0 hsz
  simp only [List.append_nil] at hW'
  have hcall := winchlaw01_LexisJoins.calls k A c l true W hC hc (of_five hL) hk
  rw [← hv] at hcall
  refine hcall.mono fun e W' ⟨he, bel⟩ => ?_
  subst he
  exact ⟨_, rfl, _, _, _, [], _, [], hW', trodAll_mk1 (shut_bool Tryd.underlying4 _), (trodAll_cons_mk (Go.RowKit.Below.trod (by kernel_rfl) (by kernel_rfl) (of_decide_eq_true (by kernel_rfl)) ⟨fuel, hf⟩ bel hlt) trodAll_mk0), rfl, bel.frame _, fun h => by cases h⟩
theorem over : Rows.LexisJoinsSaid :=
  OpenClaim.holds_of_wide 7 Tryd.f7 rfl rfl rfl rfl rfl rfl rfl ⟨rfl, rfl, rfl, rfl, rfl⟩ rfl rfl rfl rfl rfl (by kernel_rfl) Tryd.func7 (by kernel_rfl)
    (of_decide_eq_true (by kernel_rfl)) (by unfold Func.isWrapper; first | (rw [if_pos (by decide +kernel)]; kernel_rfl) | (rw [if_neg (by decide +kernel)]; exact ⟨rfl, rfl⟩))
    (fun os started H enc _ => lifted os started H enc)
theorem card : Rows.LexisJoinsCardSaid :=
  Claim7.holds_tied_plain_at .later [] [.data, .data, .data, .sentinel, .sentinel] true (true, "3ee32c66a3abcdc9ce977701f27ec8f7c4049056ae9b519df13447d67a6a3e3d") true
    over (fun _ h => by cases h) (by kernel_rfl) (fun _ h => by cases h) lexisJoins_row_tie rfl ⟨rfl, rfl⟩ (by kernel_rfl) rfl
    (fun f fn hf hfn => by
      obtain rfl : f = 7 := Option.some.inj ((show Tryd.prog.funcNamed "winch/winchlaw01.LexisJoins" = some 7 by kernel_rfl).symm.trans hf) |>.symm
      obtain rfl : fn = Tryd.f7 := (Option.some.inj (Tryd.func7.symm.trans hfn)).symm
      exact ⟨by kernel_rfl, fun j t ht => by
        rw [Tryd.params7] at ht
        have hm : t ∈ [23] := by simpa using Array.mem_of_getElem? ht
        have hall : ([23].all fun u => !Tryd.prog.wantsStandIn u) = true := by kernel_rfl
        exact (show Tryd.prog.wantsStandIn t = false by simpa using List.all_eq_true.1 hall t hm)⟩)
    (by kernel_rfl)
end Go.Proofs.YtlbaojjnilnhlaaDoor.lexisJoins
namespace Go.Proofs.YtlbaojjnilnhlaaDoor
/-- The card, under a short name, for the claim. -/
theorem lexisJoins_card : Rows.LexisJoinsCardSaid := lexisJoins.card
end Go.Proofs.YtlbaojjnilnhlaaDoor
