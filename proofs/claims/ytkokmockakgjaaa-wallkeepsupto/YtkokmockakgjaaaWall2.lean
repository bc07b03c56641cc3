/- Who saw whose, walked on: may, see, forget. -/
import Derived.Test.YtkokmockakgjaaaWall
set_option linter.unusedSimpArgs false
set_option linter.unusedVariables false
namespace Bz.S
open Go Bz
set_option maxRecDepth 10000
set_option maxHeartbeats 4000000

abbrev cH (K : List Cl) (S : List Ct) (o : Txt) : Heap := [(0, .var [.pv 1 0]), (1, .var [.map 2, .map 3]), (2, .mp false [.str] (K.map clA)), (3, .mp true [.str, .str] (S.map entW)), (4, .var [stA o])]

theorem w2_May1 (K : List Cl) (S : List Ct) (o x : Txt) : R2 F_wall_Wall_May_1 [stA x, .pv 0 0, .pv 4 0] (cH K S o) = some (.d (.bool (foesK K x o)), cH K S o) := by
  refine R2_of at_wall_Wall_May_1 (by decide) ?_
  have h := w2_foes K S x o
  simp -implicitDefEqProofs [code_wall_Wall_May_1, h]
theorem w2_Leak1 (K : List Cl) (S : List Ct) (o x : Txt) : R2 F_wall_Wall_Leak_1 [stA x, .pv 0 0, .pv 4 0] (cH K S o) = some (.d (.bool (foesK K o x)), cH K S o) := by
  refine R2_of at_wall_Wall_Leak_1 (by decide) ?_
  have h := w2_foes K S o x
  simp -implicitDefEqProofs [code_wall_Wall_Leak_1, h]

theorem w2_Index (K : List Cl) (S : List Ct) (o : Txt) (f : Nat) (q : Txt → Bool) (us : List Txt) (hu : us.length ≤ BIG) (hown : own f = false) (hret : retOwn f = false) (hf : ∀ x, R2 f [stA x, .pv 0 0, .pv 4 0] (cH K S o) = some (.d (.bool (q x)), cH K S o)) :
    R2 F_slices_IndexFunc_string_string [txS us, .fn f [.pv 0 0, .pv 4 0]] (cH K S o) = some (.d (.int .i64 (idxK q us)), cH K S o) := by
  refine R2_of at_slices_IndexFunc_string_string (by decide) ?_
  unfold BIG at hu
  have hL := loop_find (X := X2) (mask := mask_slices_IndexFunc_string_string_0) (body := body_slices_IndexFunc_string_string_0) us
    (fun i => ⟨mkE 19 [(0, txS us), (1, .fn f [.pv 0 0, .pv 4 0]), (7, .d (.int .i64 us.length)), (8, .d (.int .i64 i))], cH K S o⟩)
    (fun _ => q) (.exit 0, ⟨mkE 19 [], cH K S o⟩) (fun i _ => (.ret, ⟨mkE 19 [(4, .d (.int .i64 i))], cH K S o⟩)) (by simp) (by simp)
    (fun i e hi he hq => by
      have hw := wrap_ok (a := (i : Int) + 1) (by omega) (by omega)
      have hc := hf e
      simp -implicitDefEqProofs [body_slices_IndexFunc_string_string_0, mask_slices_IndexFunc_string_string_0, hi, he, stC_eq, hc, hq, hw, hown, hret])
    (fun i e hi he hq => by
      have hc := hf e
      simp -implicitDefEqProofs [body_slices_IndexFunc_string_string_0, hi, he, stC_eq, hc, hq, hown, hret]) (by simp -implicitDefEqProofs [body_slices_IndexFunc_string_string_0])
  simp -implicitDefEqProofs [code_slices_IndexFunc_string_string]
  rw [hL _ (by simp [mask_slices_IndexFunc_string_string_0])]
  unfold idxK
  cases findI (fun _ => q) us 0 <;> simp -implicitDefEqProofs
theorem w2_Contains (K : List Cl) (S : List Ct) (o : Txt) (f : Nat) (q : Txt → Bool) (us : List Txt) (hu : us.length ≤ BIG) (hown : own f = false) (hret : retOwn f = false) (hf : ∀ x, R2 f [stA x, .pv 0 0, .pv 4 0] (cH K S o) = some (.d (.bool (q x)), cH K S o)) :
    R2 F_slices_ContainsFunc_string_string [txS us, .fn f [.pv 0 0, .pv 4 0]] (cH K S o) = some (.d (.bool (us.any q)), cH K S o) := by
  refine R2_of at_slices_ContainsFunc_string_string (by decide) ?_
  have h := w2_Index K S o f q us hu hown hret hf
  simp -implicitDefEqProofs [code_slices_ContainsFunc_string_string, h, idxK_any]

def mayW (K : List Cl) (S : List Ct) (e o : Txt) : Bool := !(seenW S e).any fun x => foesK K x o
theorem w2_May (K : List Cl) (S : List Ct) (e o : Txt) (hS : S.length ≤ BIG) : R2 F_wall_Wall_May [.pv 0 0, stA e, stA o] (wH K S) = some (.d (.bool (mayW K S e o)), wH K S) := by
  refine R2_of at_wall_Wall_May (by decide) ?_
  have h1 := w2_is K S
  have h2 := w2_Seen K S e hS
  have hl := seenW_len S e
  unfold mayW
  generalize seenW S e = l at *
  have h3 := w2_Contains K S o F_wall_Wall_May_1 (fun x => foesK K x o) l (by omega) rfl rfl (w2_May1 K S o)
  have tk : List.take l.length (l.map stC) = l.map stC := List.take_of_length_le (by simp)
  simp -implicitDefEqProofs [code_wall_Wall_May, h1, h2, h3, tk]
theorem w_May (K : List Cl) (S : List Ct) (e o : Txt) (hS : S.length ≤ BIG) : R F_wall_Wall_May [.pv 0 0, stA e, stA o] (wH K S) = some (.d (.bool (mayW K S e o)), wH K S) := R2_R (w2_May K S e o hS)

/-! ### see -/
def isW (e o : Txt) (c : Ct) : Bool := decide (e = c.w) && decide (o = c.o)
theorem avEq_W (e o : Txt) (d : Ct) : avEq (keyW e o) (keyW d.w d.o) = some (isW e o d) := by
  unfold isW
  by_cases h : e = d.w
  · by_cases h2 : o = d.o
    · simp [avEq, aggEq, scalEq, h, h2]
    · have h' : (o == d.o) = false := by simpa using h2
      simp [avEq, aggEq, scalEq, h, h2, h']
  · have h' : (e == d.w) = false := by simpa using h
    by_cases h2 : o = d.o
    · simp [avEq, aggEq, scalEq, h, h2, h']
    · have h3 : (o == d.o) = false := by simpa using h2
      simp [avEq, aggEq, scalEq, h, h2, h', h3]
theorem findE_W (e o : Txt) : ∀ S : List Ct, findE (keyW e o) (S.map entW) = some ((S.find? (isW e o)).map fun c => .d (.int .i64 c.k))
  | [] => rfl
  | d :: r => by
    have ih := findE_W e o r
    simp only [List.map_cons, entW, findE, avEq_W, List.find?_cons]
    cases isW e o d with
    | true => rfl
    | false => exact ih
/-- one more of a sight -/
def bumpW (e o : Txt) : List Ct → List Ct
  | [] => [⟨e, o, 1⟩]
  | c :: r => if isW e o c then ⟨c.w, c.o, IntKind.i64.wrap (c.k + 1)⟩ :: r else c :: bumpW e o r
def numW (e o : Txt) (S : List Ct) : Int := match S.find? (isW e o) with | some c => c.k | none => 0
theorem setE_W (e o : Txt) : ∀ S : List Ct, setE (keyW e o) (.d (.int .i64 (IntKind.i64.wrap (numW e o S + 1)))) (S.map entW) = (bumpW e o S).map entW
  | [] => rfl
  | d :: r => by
    have ih := setE_W e o r
    unfold numW at ih ⊢
    simp only [List.map_cons, entW, setE, avEq_W, List.find?_cons, bumpW]
    cases isW e o d with
    | true => rfl
    | false =>
      simp only [Option.some.injEq, Bool.false_eq_true, if_false, List.map_cons]
      exact congrArg _ ih
theorem w_See (K : List Cl) (S : List Ct) (e o : Txt) (hS : S.length ≤ BIG) : R F_wall_Wall_See [.pv 0 0, stA e, stA o] (wH K S) = some (.d (.bool (mayW K S e o)), wH K (if mayW K S e o then bumpW e o S else S)) := by
  refine R_ext (ext_wall_Wall_See ?_)
  have h1 := w2_May K S e o hS
  simp only [rcode_wall_Wall_See]
  refine aw_seq_code (s' := ⟨mkE 23 [(0, .pv 0 0), (1, stA e), (2, stA o), (6, .d (.bool false))], wH K S⟩) (by simp) ?_
  cases hm : mayW K S e o with
  | false =>
    rw [hm] at h1
    refine ⟨.ret, ⟨mkE 23 [(6, .d (.bool false))], wH K S⟩, by simp -implicitDefEqProofs [h1], fun h => (by cases h), fun _ => ?_⟩
    simp -implicitDefEqProofs [rcode_wall_Wall_See]
  | true =>
    rw [hm] at h1
    refine aw_seq_code (s' := ⟨mkE 23 [(0, .pv 0 0), (1, stA e), (2, stA o), (6, .d (.bool false)), (7, .pv 0 0), (8, stA e), (9, stA o), (10, .d (.bool true)), (11, .d (.bool false))], wH K S⟩) (by simp -implicitDefEqProofs [h1]) ?_
    refine aw_mask (s' := ⟨mkE 23 [(0, .pv 0 0), (1, stA e), (2, stA o)], wH K S⟩) (by simp -implicitDefEqProofs) ?_
    have hb : bumpS X2 ⟨1, true, [.str, .str], 0, 1, 1, 1⟩ ⟨mkE 23 [(0, .pv 0 0), (1, stA e), (2, stA o)], wH K S⟩ = some ⟨mkE 23 [(0, .pv 0 0), (1, stA e), (2, stA o)], wH K (bumpW e o S)⟩ := by
      have hf := findE_W e o S
      have hs := setE_W e o S
      have hn : ((S.find? (isW e o)).map fun c => AV.d (.int .i64 c.k)).getD (intV 0) = .d (.int .i64 (numW e o S)) := by
        unfold numW; cases S.find? (isW e o) <;> rfl
      have he : envB (fun _ => .undef) (fun _ => true) (mkE 23 [(0, .pv 0 0), (1, stA e), (2, stA o)]) 0 = mkE 23 [(0, .pv 0 0), (1, stA e), (2, stA o)] := rfl
      simp -implicitDefEqProofs [bumpS, pureV, aop, mkE_len, liveA, anil, afaddr, aload, fillCells, hf, he, intV]
      have hn' : ((S.find? (isW e o)).map fun c => AV.d (.int .i64 c.k)).getD (.d (.int .i64 0)) = .d (.int .i64 (numW e o S)) := hn
      rw [hn']
      simp only [Option.some.injEq, St.mk.injEq, true_and]
      exact congrArg (fun m => [(0, AObj.var [AV.map 1, AV.map 2]), (1, .mp false [.str] (K.map clA)), (2, .mp true [.str, .str] m)]) hs
    refine ⟨_, hb, fun _ => ?_, fun h => absurd rfl h⟩
    refine aw_code (e := .ret) (s' := ⟨mkE 23 [(6, .d (.bool true))], wH K (bumpW e o S)⟩) (by simp -implicitDefEqProofs) ?_
    simp -implicitDefEqProofs [rcode_wall_Wall_See]
end Bz.S
