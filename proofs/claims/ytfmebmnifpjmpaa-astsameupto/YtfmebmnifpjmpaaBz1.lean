/- The clean machine, part 2: values without memory, an interpreter of translated code over them, and that it is right about the program; no program in sight. No condition. -/
import Derived.Test.YtfmebmnifpjmpaaBz0
import Derived.Orders
set_option linter.unusedSimpArgs false
set_option linter.unusedVariables false
/- append, copy, clear. -/
namespace Bz
open Go

section
variable {P : Program} {w : World} {ρ : Nm} {S : Nat → Prop} {H : Heap}

theorem zeroCells_size (z : Array Value) (n : Nat) : (Builtin.zeroCells z n).size = n * z.size := by simp [Builtin.zeroCells]

/-- two rows, one behind the other -/
theorem rowAt_append {sz : Nat} {es ys : List (List D)} {a b : Array Value} (rest : Array Value) (ha : RowAt S w sz es a) (hsz : a.size = es.length * sz) (hb : RowAt S w sz ys b) : RowAt S w sz (es ++ ys) (a ++ b ++ rest) := by
  refine ⟨?_, fun i c hc => ?_⟩
  · simp only [List.length_append, Array.size_append, Nat.add_mul]
    have := hb.1; omega
  · by_cases hi : i < es.length
    · rw [List.getElem?_append_left hi] at hc
      refine ⟨(ha.2 i c hc).1, fun j x hj => ?_⟩
      obtain ⟨v, hv, hr⟩ := (ha.2 i c hc).2 j x hj
      have hlt := (Array.getElem?_eq_some_iff.1 hv).1
      refine ⟨v, ?_, hr⟩
      rw [Array.append_assoc, Array.getElem?_append_left hlt]; exact hv
    · rw [List.getElem?_append_right (by omega)] at hc
      refine ⟨(hb.2 _ c hc).1, fun j x hj => ?_⟩
      obtain ⟨v, hv, hr⟩ := (hb.2 _ c hc).2 j x hj
      have hlt := (Array.getElem?_eq_some_iff.1 hv).1
      refine ⟨v, ?_, hr⟩
      have e : i * sz + j = a.size + ((i - es.length) * sz + j) := by
        rw [hsz, ← Nat.add_assoc, ← Nat.add_mul, Nat.add_sub_cancel' (by omega)]
      rw [Array.append_assoc, Array.getElem?_append_right (by omega), e, Nat.add_sub_cancel_left, Array.getElem?_append_left hlt]
      exact hv

/-- a row, some of its elements written over -/
theorem rowAt_put {sz : Nat} {es ys : List (List D)} {vs : Array Value} {b : List Value} (h : RowAt S w sz es vs) {o : Nat} (ho : o + ys.length ≤ es.length) (hb : b.length = ys.length * sz)
    (hr : RowAt S w sz ys b.toArray) : RowAt S w sz (put es o ys) (put vs.toList (o * sz) b).toArray := by
  have hle : o * sz + ys.length * sz ≤ es.length * sz := by rw [← Nat.add_mul]; exact Nat.mul_le_mul_right _ ho
  have h1 := h.1
  have hpl : (put vs.toList (o * sz) b).length = vs.toList.length := put_length _ _ _ (by simp; omega)
  have hpe : (put es o ys).length = es.length := put_length _ _ _ ho
  refine ⟨by rw [hpe]; simp only [List.size_toArray, hpl]; simpa using h.1, fun i c hc => ?_⟩
  rw [put_get es o ys ho] at hc
  have cellOf : (c.length = sz) → (∀ (j : Nat) (x : D), c[j]? = some x → ∃ v, (put vs.toList (o * sz) b)[i * sz + j]? = some v ∧ RelD S w x v) → c.length = sz ∧ ∀ (j : Nat) (x : D), c[j]? = some x → ∃ v, (put vs.toList (o * sz) b).toArray[i * sz + j]? = some v ∧ RelD S w x v :=
    fun a b => ⟨a, fun j x hj => by obtain ⟨v, hv, hr⟩ := b j x hj; exact ⟨v, by simpa using hv, hr⟩⟩
  split at hc
  · rename_i hi
    have hcl := (h.2 i c hc).1
    refine cellOf hcl fun j x hj => ?_
    obtain ⟨v, hv, hrv⟩ := (h.2 i c hc).2 j x hj
    have hjs : j < sz := by rw [← hcl]; exact (List.getElem?_eq_some_iff.1 hj).1
    have := mul_add_lt hi hjs
    refine ⟨v, ?_, hrv⟩
    rw [put_get _ _ _ (by simp; omega), if_pos (by omega)]; simpa using hv
  · rename_i hi
    split at hc
    · rename_i hi2
      have hcl := (hr.2 _ c hc).1
      refine cellOf hcl fun j x hj => ?_
      obtain ⟨v, hv, hrv⟩ := (hr.2 _ c hc).2 j x hj
      have hjs : j < sz := by rw [← hcl]; exact (List.getElem?_eq_some_iff.1 hj).1
      have hlt := mul_add_lt (show i - o < ys.length by omega) hjs
      have e : i * sz + j = o * sz + ((i - o) * sz + j) := by rw [← Nat.add_assoc, ← Nat.add_mul, Nat.add_sub_cancel' (by omega)]
      refine ⟨v, ?_, hrv⟩
      rw [put_get _ _ _ (by simp; omega), if_neg (by omega), if_pos (by omega), e, Nat.add_sub_cancel_left]
      simpa using hv
    · rename_i hi2
      have hcl := (h.2 i c hc).1
      refine cellOf hcl fun j x hj => ?_
      obtain ⟨v, hv, hrv⟩ := (h.2 i c hc).2 j x hj
      refine ⟨v, ?_, hrv⟩
      have hge : (o + ys.length) * sz ≤ i * sz := Nat.mul_le_mul_right _ (by omega)
      rw [Nat.add_mul] at hge
      rw [put_get _ _ _ (by simp; omega), if_neg (by omega), if_neg (by omega)]; simpa using hv

/-- a row grown inside its block -/
theorem rowAt_grow {sz : Nat} {es ys : List (List D)} {vs : Array Value} {b : List Value} (h : RowAt S w sz es vs) (hb : b.length = ys.length * sz) (hsz : (es.length + ys.length) * sz ≤ vs.size)
    (hr : RowAt S w sz ys b.toArray) : RowAt S w sz (es ++ ys) (put vs.toList (es.length * sz) b).toArray := by
  rw [Nat.add_mul] at hsz
  have hpl : (put vs.toList (es.length * sz) b).length = vs.toList.length := put_length _ _ _ (by simp; omega)
  refine ⟨by simp only [List.size_toArray, hpl, List.length_append, Nat.add_mul]; simpa using hsz, fun i c hc => ?_⟩
  by_cases hi : i < es.length
  · rw [List.getElem?_append_left hi] at hc
    have hcl := (h.2 i c hc).1
    refine ⟨hcl, fun j x hj => ?_⟩
    obtain ⟨v, hv, hrv⟩ := (h.2 i c hc).2 j x hj
    have hjs : j < sz := by rw [← hcl]; exact (List.getElem?_eq_some_iff.1 hj).1
    have := mul_add_lt hi hjs
    refine ⟨v, ?_, hrv⟩
    have g := put_get vs.toList (es.length * sz) b (by simp; omega) (i * sz + j)
    rw [if_pos (by omega)] at g
    simpa [g] using hv
  · rw [List.getElem?_append_right (by omega)] at hc
    have hcl := (hr.2 _ c hc).1
    refine ⟨hcl, fun j x hj => ?_⟩
    obtain ⟨v, hv, hrv⟩ := (hr.2 _ c hc).2 j x hj
    have hjs : j < sz := by rw [← hcl]; exact (List.getElem?_eq_some_iff.1 hj).1
    have hlt := mul_add_lt (show i - es.length < ys.length from by have := (List.getElem?_eq_some_iff.1 hc).1; exact this) hjs
    have e : i * sz + j = es.length * sz + ((i - es.length) * sz + j) := by rw [← Nat.add_assoc, ← Nat.add_mul, Nat.add_sub_cancel' (by omega)]
    refine ⟨v, ?_, hrv⟩
    have g := put_get vs.toList (es.length * sz) b (by simp; omega) (i * sz + j)
    rw [if_neg (by omega), if_pos (by omega), show i * sz + j - es.length * sz = (i - es.length) * sz + j by omega] at g
    simpa [g] using hv

/-- append where the room isn't there -/
theorem append_grow {argTypes : Array TypeId} {ty t t2 e : TypeId} (h1 : argTypes[0]? = some t) (h2 : argTypes[1]? = some t2) (ht : P.underlying t = some (.slice e)) {d2 : TypeDesc} (ht2 : P.underlying t2 = some d2)
    (hd2 : d2 = .string ∨ ∃ e2, d2 = .slice e2) (he : szOf P e ≠ 0) (hby : P.bytesOf e ≤ 256) {z : List D} (hz : zeroDs P e = some z) (hzl : z.length = szOf P e) {base : Option Addr} {sLen sCap n : Nat} {x : Value}
    (hn : (Builtin.lenOf x).run P w = .ok n w) (hlim : sLen + n ≤ LIM) (hcap : ¬ sLen + n ≤ sCap) {old new : Array Value}
    (ho : (Builtin.firstCells (szOf P e) sLen (.slice base sLen sCap)).run P w.drew = .ok old w.drew)
    (hn' : (Builtin.firstCells (szOf P e) n x).run P w.drew = .ok new w.drew) :
    ∃ (newCap : Nat) (rest : Array Value), sLen + n ≤ newCap ∧ rest.size = (newCap - (sLen + n)) * szOf P e ∧
      (Builtin.append_ argTypes ty #[.slice base sLen sCap, x]).run P w = .ok (.slice (some ⟨w.heap.size, 0, none⟩) (sLen + n) newCap) (w.drew.alloc (.cells (old ++ new ++ rest) e)) := by
  obtain ⟨i, zv, hinf, hzv, hzlen, _⟩ := zeroDs_rel hz
  have hbytes : i.bytes ≤ 256 := by simpa [Program.bytesOf, hinf] using hby
  refine ⟨grownCap w (sLen + n) sCap e, Builtin.zeroCells zv.cells (grownCap w (sLen + n) sCap e - (sLen + n)), ?_, by rw [zeroCells_size, ← hzlen, hzl], ?_⟩
  · unfold grownCap Question.cut
    simp only
    omega
  · have f2 : ¬ (9223372036854775807 < ((sLen : Int) + (n : Int))) := by unfold LIM at hlim; omega
    have f3 : ¬ (281474976710656 < Builtin.nextslicecap (sLen + n) sCap * i.bytes) := by
      have : (sLen + n) * i.bytes ≤ LIM * 256 := Nat.mul_le_mul hlim hbytes
      have := growslice_fits (need := sLen + n) (old := sCap) (bytes := i.bytes) (by omega) (by unfold LIM at this; omega)
      omega
    have hsz : (Go.sizeOf e).run P w = .ok (szOf P e) w := run_size he w
    have hti : (typeInfo e).run P w = .ok i w := run_typeInfo w hinf
    have hti' : (typeInfo e).run P w.drew = .ok i w.drew := run_typeInfo _ hinf
    have hz' := run_zero hinf hzv w.drew
    rcases hd2 with rfl | ⟨e2, rfl⟩
    · simp [Builtin.append_, h1, h2, run_underlying ht, run_underlying ht2, hsz, hn, hcap, f2, f3, hti, hti', Question.forced, ho, hn', hz', newRow, grownCap, Array.append_assoc]
    · simp [Builtin.append_, h1, h2, run_underlying ht, run_underlying ht2, hsz, hn, hcap, f2, f3, hti, hti', Question.forced, ho, hn', hz', newRow, grownCap, Array.append_assoc]

/-- append where there is room -/
theorem append_room {argTypes : Array TypeId} {ty t t2 e : TypeId} (h1 : argTypes[0]? = some t) (h2 : argTypes[1]? = some t2) (ht : P.underlying t = some (.slice e)) {d2 : TypeDesc} (ht2 : P.underlying t2 = some d2)
    (hd2 : d2 = .string ∨ ∃ e2, d2 = .slice e2) (he : szOf P e ≠ 0) {base : Option Addr} {sLen sCap n : Nat} {x : Value}
    (hn : (Builtin.lenOf x).run P w = .ok n w) (hcap : sLen + n ≤ sCap) {new : Array Value} (hnew : (Builtin.firstCells (szOf P e) n x).run P w = .ok new w) {w' : World}
    (hst : ∀ a, base = some a → (storeCells (a.add (sLen * szOf P e)) new.toList).run P w = .ok () w') (hw : base = none → w' = w) :
    (Builtin.append_ argTypes ty #[.slice base sLen sCap, x]).run P w = .ok (.slice base (sLen + n) sCap) w' := by
  have hsz : (Go.sizeOf e).run P w = .ok (szOf P e) w := run_size he w
  cases base with
  | none =>
    have := hw rfl; subst this
    rcases hd2 with rfl | ⟨e2, rfl⟩
    · simp [Builtin.append_, h1, h2, run_underlying ht, run_underlying ht2, hsz, hn, hcap, hnew]
    · simp [Builtin.append_, h1, h2, run_underlying ht, run_underlying ht2, hsz, hn, hcap, hnew]
  | some a =>
    have hs := hst a rfl
    rcases hd2 with rfl | ⟨e2, rfl⟩
    · simp [Builtin.append_, h1, h2, run_underlying ht, run_underlying ht2, hsz, hn, hcap, hnew, hs]
    · simp [Builtin.append_, h1, h2, run_underlying ht, run_underlying ht2, hsz, hn, hcap, hnew, hs]

theorem RelA.heap {v : AV} {x : Value} {w' : World} (h : RelA ρ S H w v x) (hw : w'.heap = w.heap) : RelA ρ S H w' v x :=
  h.keep (fun _ h => h) (fun _ _ => by rw [hw]) (fun b cs T fr hb => ⟨cs, fr, by rw [hw]; exact hb, rfl⟩) fun l _ => .refl ρ H l

theorem Inv.heap {w' : World} (h : Inv ρ S H w) (hw : w'.heap = w.heap) : Inv ρ S H w' :=
  ⟨fun l o ho => (h.obj l o ho).keep (fun _ => by rw [hw]) (fun _ _ _ => by rw [hw]) (fun _ h => h) (fun _ _ => by rw [hw]) (fun b cs T fr hb => ⟨cs, fr, by rw [hw]; exact hb, rfl⟩) fun l _ => .refl ρ H l, h.inj, h.sep, fun b hb => by rw [hw]; exact h.dom b hb, fun l b hl hb => by rw [hw]; exact h.hlt l b hl hb, h.hno⟩

theorem run_first0 (sz : Nat) (b : Option Addr) (cap : Nat) (w : World) : (Builtin.firstCells sz 0 (.slice b 0 cap)).run P w = .ok #[] w := by
  cases b with
  | none => rfl
  | some a => simp only [Builtin.firstCells, Nat.zero_mul]; rfl

/-- rows written over inside a row of the call's own -/
theorem over_step {l sz o : Nat} {es ys : List (List D)} (hi : Inv ρ S H w) (hes : hget H l = some (.arr sz es)) (ho : o + ys.length ≤ es.length) {b : List Value} (hb : b.length = ys.length * sz)
    (hr : RowAt S w sz ys b.toArray) (hf : ∀ v ∈ b, Flat v) :
    ∃ w', (storeCells ⟨ρ l, o * sz, none⟩ b).run P w = .ok () w' ∧ ∃ ρ' : Nm, ρ' l = ρ l ∧ Step No ρ S H w ρ' S (hset H l (.arr sz (put es o ys))) w' := by
  by_cases hesne : es = []
  · subst hesne
    have hy : ys = [] := List.length_eq_zero_iff.1 (by rw [List.length_nil] at ho; omega)
    subst hy
    have hb0 : b = [] := List.length_eq_zero_iff.1 (by rw [hb]; simp)
    subst hb0
    refine ⟨w, rfl, ρ, rfl, ?_⟩
    refine step_ext hi fun k => ?_
    rw [hget_hset]
    split
    · subst_vars; rw [hes]; simp [put]
    · rfl
  have h0 := (hi.obj l _ hes).1
  obtain ⟨vs, T, hblk, hrow⟩ := (hi.obj l _ hes).2 hesne
  have hle : o * sz + ys.length * sz ≤ es.length * sz := by rw [← Nat.add_mul]; exact Nat.mul_le_mul_right _ ho
  have h1 := hrow.1
  have hpl : (put vs.toList (o * sz) b).length = vs.toList.length := put_length _ _ _ (by simp; omega)
  have hst := run_storeCells_at (P := P) (ρ l) (o * sz) T b 0 vs w hblk (by omega) (fun v hv => flat_one (hf v hv))
  simp only [Nat.add_zero] at hst
  obtain ⟨g1, g2, g3, g4⟩ := setRow_grow (cs' := (put vs.toList (o * sz) b).toArray) hblk (by simpa using hpl)
  refine ⟨w.setRow (ρ l) (put vs.toList (o * sz) b).toArray, hst, upd ρ l (ρ l), upd_self .., ?_⟩
  refine step_write hi l (.arr sz (put es o ys)) (ρ l) _ (.inr ⟨⟨_, hes, by simpa [isLive] using hesne⟩, rfl⟩) g2 g1 g3 (.inr (comp_arr hes (by rw [put_length _ _ _ ho]; exact Nat.le_refl _) (fun _ => rfl))) (.inl id) ?_
  intro _ hrelD
  have hg := rowAt_put hrow ho hb hr
  exact ⟨h0, fun _ => ⟨_, T, g4, hg.1, fun i c hc => ⟨(hg.2 i c hc).1, fun j x hj => by obtain ⟨v, hv, hr⟩ := (hg.2 i c hc).2 j x hj; exact ⟨v, hv, hrelD _ _ hr⟩⟩⟩⟩

theorem appz_rel {N : Nat → Prop} {argTypes : Array TypeId} {ty t t2 e : TypeId} (h1 : argTypes[0]? = some t) (h2 : argTypes[1]? = some t2) (ht : P.underlying t = some (.slice e)) (ht2 : P.underlying t2 = some (.int .i64))
    (he : szOf P e ≠ 0) (hby : P.bytesOf e ≤ 256) {z : List D} (hz : zeroDs P e = some z) (hzl : z.length = szOf P e) (hi : Inv ρ S H w) {nm : Nat} (hN : N nm) (hno : ∀ m p, hget H m = some p → m ≠ nm → nm ∉ refsO p)
    {x y : AV} {vx vy : Value} (hx : RelA ρ S H w x vx) (hy : RelA ρ S H w y vy) {v : AV} {u : Upd} (h : aappz nm (szOf P e) (z.map norm) x y = some (v, u)) :
    ∃ w' r, (Builtin.append_ argTypes ty #[vx, vy]).run P w = .ok r w' ∧ ∃ ρ', Step N ρ S H w ρ' S (applyU H u) w' ∧ RelA ρ' S (applyU H u) w' v r := by
  have h0 : 0 < szOf P e := Nat.pos_of_ne_zero he
  obtain ⟨i, zv, hinf, hzv, hzlen, _⟩ := zeroDs_rel hz
  have hbytes : i.bytes ≤ 256 := by simpa [Program.bytesOf, hinf] using hby
  unfold aappz at h
  split at h
  · rename_i k
    split at h
    · rename_i hc
      obtain ⟨hk, hlim⟩ := hc
      cases h
      obtain ⟨m, rfl⟩ := Int.eq_ofNat_of_zero_le (show 0 ≤ k by omega)
      simp only [Int.toNat_natCast] at hlim ⊢
      have := relA_int hy; subst this
      cases hx with
      | d _ _ hd =>
        cases hd with
        | vnil tt base =>
          have hzs : zv.cells.size = szOf P e := by rw [← hzlen, hzl]
          let cap := grownCap w m 0 e
          have hcap : m ≤ cap := by show m ≤ grownCap w m 0 e; unfold grownCap Question.cut; simp only; omega
          let cells : Array Value := Builtin.zeroCells zv.cells m ++ Builtin.zeroCells zv.cells (cap - m)
          have hrow : RowAt S w (szOf P e) (List.replicate m (z.map norm)) cells := by
            have a := zeros_row hz h0 hzl S w m hinf hzv (fun i => zv.cells[i % zv.cells.size]!) (fun _ _ => rfl)
            have := rowAt_append (a := #[]) (b := Builtin.zeroCells zv.cells m) (Builtin.zeroCells zv.cells (cap - m)) (es := []) (ys := List.replicate m (z.map norm)) (S := S) (w := w) (sz := szOf P e) ⟨by simp, by simp⟩ (by simp) (by
              unfold Builtin.zeroCells; rw [hzs]; rw [hzs] at a; exact a)
            simpa [cells] using this
          refine ⟨{ w.drew with heap := w.heap.push (.cells cells e) }, .slice (some ⟨w.heap.size, 0, none⟩) m cap, ?_, upd ρ nm w.heap.size, freshRow_rel hi hN hno h0 hrow e _ rfl, ?_⟩
          · have f0 : IntKind.i64.wrap (m : Int) = m := by
              unfold LIM at hlim
              unfold IntKind.wrap
              have e1 : (m : Int) % 2 ^ IntKind.i64.bits = (m : Int) := by
                have : IntKind.i64.bits = 64 := rfl
                rw [this]; omega
              simp only [e1]
              have : IntKind.i64.bits = 64 := rfl
              have h2 : ¬ ((m : Int) ≥ 2 ^ (IntKind.i64.bits - 1)) := by rw [this]; omega
              simp [h2]
            have f1 : ¬ ((m : Int) < 0) := by omega
            have f2 : ¬ ((m : Int) * (i.bytes : Int) > 281474976710656) := by
              have : (m : Int) * (i.bytes : Int) ≤ m * 256 := Int.mul_le_mul_of_nonneg_left (by omega) (by omega)
              unfold LIM at hlim
              omega
            have f3 : ¬ (m ≤ 0) := by omega
            have f4 : ¬ (9223372036854775807 < ((m : Nat) : Int)) := by unfold LIM at hlim; omega
            have f5 : ¬ (281474976710656 < Builtin.nextslicecap m 0 * i.bytes) := by
              have : m * i.bytes ≤ LIM * 256 := Nat.mul_le_mul hlim hbytes
              have := growslice_fits (need := m) (old := 0) (bytes := i.bytes) (by omega) (by unfold LIM at this; omega)
              omega
            have f6 : ¬ (m * szOf P e = 0) := by
              have : 0 < m * szOf P e := Nat.mul_pos (by omega) h0
              omega
            have f7 : ¬ (m = 0) := by omega
            have hsz : (Go.sizeOf e).run P w = .ok (szOf P e) w := run_size he w
            have hti : (typeInfo e).run P w = .ok i w := run_typeInfo w hinf
            have hti' : (typeInfo e).run P w.drew = .ok i w.drew := run_typeInfo _ hinf
            have hz' := run_zero hinf hzv w.drew
            have hf := run_first0 (P := P) (szOf P e) base 0 w.drew
            simp [Builtin.append_, h1, h2, run_underlying ht, run_underlying ht2, hsz, asInt, asIntOf, f0, f1, f2, f3, f4, f5, f6, f7, hti, hti', Question.forced, hf, hz', newRow, cells, cap, grownCap]
            rfl
          · exact os_new (cs := cells) (T := e) (by rw [upd_self]) (by show (w.heap.push _)[w.heap.size]? = _; simp) (by simp) hcap (fun e => by omega) (by
              simp only [cells, Array.size_append, zeroCells_size, hzs, ← Nat.add_mul]
              exact Nat.mul_le_mul_right _ (by omega)) (hget_set_self ..)
    · cases h
  · cases h

theorem append_rel {N : Nat → Prop} {argTypes : Array TypeId} {ty t t2 e : TypeId} (h1 : argTypes[0]? = some t) (h2 : argTypes[1]? = some t2) (ht : P.underlying t = some (.slice e)) {d2 : TypeDesc} (ht2 : P.underlying t2 = some d2)
    (hd2 : d2 = .string ∨ ∃ e2, d2 = .slice e2) (he : szOf P e ≠ 0) (hby : P.bytesOf e ≤ 256) {z : List D} (hz : zeroDs P e = some z) (hzl : z.length = szOf P e) (hi : Inv ρ S H w) {nm : Nat}
    {x y : AV} {vx vy : Value} (hx : RelA ρ S H w x vx) (hy : RelA ρ S H w y vy) {ys : List (List D)} (hys : rowOf H (szOf P e) y = some ys) (hsd : sized (szOf P e) ys = true) {v : AV} {u : Upd}
    (h : aappend nm H (szOf P e) x ys = some (v, u)) (hN : x = .d (.vs true []) → u ≠ [] → N nm ∧ ∀ m p, hget H m = some p → m ≠ nm → nm ∉ refsO p) (hnmu : ∀ l n off len, x = .os l n off len → ¬ N l) :
    ∃ w' r, (Builtin.append_ argTypes ty #[vx, vy]).run P w = .ok r w' ∧ ∃ ρ' S', Step N ρ S H w ρ' S' (applyU H u) w' ∧ RelA ρ' S' (applyU H u) w' v r := by
  have h0 : 0 < szOf P e := Nat.pos_of_ne_zero he
  obtain ⟨hlen, hcells⟩ := rowOf_rel (P := P) h0 hi hy hys hsd
  obtain ⟨new, hnew, hnsz, hnrow, hnfl⟩ := hcells ys.length (Nat.le_refl _)
  rw [List.take_length] at hnrow
  let w1 : World := w.drew
  have hi1 : Inv ρ S H w1 := hi.heap rfl
  obtain ⟨_, hcells1⟩ := rowOf_rel (P := P) h0 hi1 (hy.heap (w' := w1) rfl) hys hsd
  obtain ⟨new1, hnew1, hnsz1, hnrow1, _⟩ := hcells1 ys.length (Nat.le_refl _)
  rw [List.take_length] at hnrow1
  unfold aappend at h
  split at h
  · -- nil
    cases hx with
    | d _ _ hd =>
      cases hd with
      | vnil tt bb =>
        split at h
        · rename_i hemp
          cases h
          have hys0 : ys = [] := by simpa using hemp
          subst hys0
          refine ⟨w, _, append_room (n := 0) h1 h2 ht ht2 hd2 he hlen (by simp) hnew (fun a _ => by
            have hnew0 : new = #[] := by
              apply Array.eq_empty_of_size_eq_zero; rw [hnsz]; simp
            rw [hnew0]; rfl) (fun _ => rfl), ρ, S, .refl hi, ?_⟩
          exact .d _ _ (.vnil _ _)
        · rename_i hne
          split at h
          · rename_i hlim
            cases h
            have hpos : ys.length ≠ 0 := by
              intro e; exact hne (by simp [List.length_eq_zero_iff.1 e])
            obtain ⟨hNn, hno⟩ := hN rfl (by simp)
            obtain ⟨newCap, rest, hc1, hc2, hrun⟩ := append_grow (w := w) (base := bb) (sLen := 0) (sCap := 0) (old := #[]) (new := new1) (argTypes := argTypes) (ty := ty) h1 h2 ht ht2 hd2 he hby hz hzl hlen (by omega) (by omega) (run_first0 (szOf P e) bb 0 w.drew) hnew1
            simp only [Nat.zero_add] at hc1 hc2 hrun
            have hrow : RowAt S w1 (szOf P e) ([] ++ ys) (#[] ++ new1 ++ rest) := rowAt_append rest ⟨by simp, by simp⟩ (by simp) hnrow1
            have hrow' : RowAt S w (szOf P e) ys (#[] ++ new1 ++ rest) := by
              have := hrow.mono (w' := w) (fun _ h => h) (fun _ _ => rfl)
              simpa using this
            refine ⟨_, _, hrun, upd ρ nm w.heap.size, S, freshRow_rel hi hNn hno h0 hrow' e _ rfl, ?_⟩
            refine os_new (cs := #[] ++ new1 ++ rest) (T := e) (by rw [upd_self]) (by show (w.heap.push _)[w.heap.size]? = _; simp) rfl hc1 (fun e => absurd e hpos) ?_ (hget_set_self ..)
            simp only [Array.size_append, hnsz1, hc2, Array.size_empty, Nat.zero_add, ← Nat.add_mul]
            exact Nat.mul_le_mul_right _ (by omega)
          · cases h
  · -- a row of the call's own
    rename_i l n len
    split at h
    · rename_i z' es hes
      split at h
      · rename_i hcond
        obtain ⟨c1, c2, rfl, hlim⟩ := hcond
        cases h
        have c3 : es.length = len := by omega
        cases hx with
        | os _ _ _ _ _ _ ho =>
          have hcnt : ∀ sz1 m1, Cnt (hset H l (.arr (szOf P e) (es ++ ys))) l sz1 m1 → sz1 = szOf P e ∧ m1 = n + ys.length := by
            intro sz1 m1 hm
            have hm := cnt_of (hget_set_self ..) hm
            simp only [rowsOf, Option.some.injEq, Prod.mk.injEq] at hm
            exact ⟨hm.1.symm, by rw [← hm.2, List.length_append, c1]⟩
          have hnN : ¬ N l := hnmu l n 0 len rfl
          rcases (ho (szOf P e) n (cnt_arr hes c1)).2 rfl with ⟨hn0, hlen0, bb, rfl⟩ | ⟨⟨hnn, hct⟩, a, cap, vs, T, fr, rfl, hle, ha, hblk, hbsz⟩
          · -- nowhere as yet
            have hes0 : es = [] := List.length_eq_zero_iff.1 (by omega)
            subst hes0
            subst hn0; subst hlen0
            by_cases hy0 : ys = []
            · subst hy0
              refine ⟨w, _, append_room (n := 0) h1 h2 ht ht2 hd2 he hlen (by simp) hnew (fun a _ => by
                have hnew0 : new = #[] := by
                  apply Array.eq_empty_of_size_eq_zero; rw [hnsz]; simp
                rw [hnew0]; rfl) (fun _ => rfl), ρ, S, step_ext hi (fun k => ?_), ?_⟩
              · show hget (hset H l _) k = hget H k
                rw [List.append_nil, hget_hset]
                split
                · subst_vars; exact hes.symm
                · rfl
              · refine .os _ _ _ _ _ trivial fun sz1 m1 hm => ?_
                obtain ⟨rfl, rfl⟩ := hcnt sz1 m1 hm
                exact ⟨Nat.le_refl _, fun _ => .inl ⟨rfl, rfl, _, rfl⟩⟩
            · have hpos : ys.length ≠ 0 := fun e => hy0 (List.length_eq_zero_iff.1 e)
              obtain ⟨newCap, rest, hc1, hc2, hrun⟩ := append_grow (w := w) (base := bb) (sLen := 0) (sCap := 0) (old := #[]) (new := new1) (argTypes := argTypes) (ty := ty) h1 h2 ht ht2 hd2 he hby hz hzl hlen (by omega) (by omega) (run_first0 (szOf P e) bb 0 w.drew) hnew1
              simp only [Nat.zero_add] at hc1 hc2 hrun
              have hrow : RowAt S w1 (szOf P e) ([] ++ ys) (#[] ++ new1 ++ rest) := rowAt_append rest ⟨by simp, by simp⟩ (by simp) hnrow1
              have hrow' : RowAt S w (szOf P e) ([] ++ ys) (#[] ++ new1 ++ rest) := hrow.mono (w' := w) (fun _ h => h) (fun _ _ => rfl)
              have hheap : (w.drew.alloc (.cells (#[] ++ new1 ++ rest) e)).heap = w.heap.push (.cells (#[] ++ new1 ++ rest) e) := rfl
              have hoth : ∀ c, c ≠ w.heap.size → (w.drew.alloc (.cells (#[] ++ new1 ++ rest) e)).heap[c]? = w.heap[c]? := by
                intro c hc; rw [hheap, Array.getElem?_push, if_neg hc]
              have hat : (w.drew.alloc (.cells (#[] ++ new1 ++ rest) e)).heap[w.heap.size]? = some (.cells (#[] ++ new1 ++ rest) e) := by rw [hheap]; simp
              refine ⟨_, _, hrun, upd ρ l w.heap.size, S, ?_, ?_⟩
              · refine step_write hi l (.arr (szOf P e) ([] ++ ys)) w.heap.size _ (.inl rfl) hoth (fun b cs T fr hb => ?_) (by rw [hheap]; simp) (.inr (comp_arr hes (by simp) (fun hl => ?_))) (.inl hnN) ?_
                · have := lt_of_get hb
                  exact ⟨cs, fr, by rw [hoth b (by omega)]; exact hb, rfl⟩
                · simp only [List.length_append] at hl; omega
                · intro _ hrelD
                  exact ⟨h0, fun _ => ⟨_, e, hat, hrow'.1, fun i c hc => ⟨(hrow'.2 i c hc).1, fun j x hj => by obtain ⟨v, hv, hr⟩ := (hrow'.2 i c hc).2 j x hj; exact ⟨v, hv, hrelD _ _ hr⟩⟩⟩⟩
              · have := os_new (ρ := upd ρ l w.heap.size) (S := S) (cs := #[] ++ new1 ++ rest) (T := e) (n := ys.length) (by rw [upd_self]) hat (by simp) hc1 (fun e => absurd e hpos) (by
                  simp only [Array.size_append, hnsz1, hc2, Array.size_empty, Nat.zero_add, ← Nat.add_mul]
                  exact Nat.mul_le_mul_right _ (by omega)) (hget_set_self H l (.arr (szOf P e) ([] ++ ys)))
                simpa [applyU] using this
          have hesne : es ≠ [] := by intro e; subst e; exact hnn c1.symm
          obtain ⟨vs', T', hb, hrow⟩ := (hi.obj l _ hes).2 hesne
          rw [hblk] at hb; cases hb
          simp only [Nat.zero_mul, Nat.zero_add] at ha hbsz
          have hlive : Live H l := ⟨_, hes, by simpa [isLive] using hesne⟩
          by_cases hroom : len + ys.length ≤ cap
          · by_cases hc0 : cap = 0
            · -- nothing at all
              have hy0 : ys = [] := List.length_eq_zero_iff.1 (by omega)
              subst hy0
              have hnew0 : new = #[] := by
                apply Array.eq_empty_of_size_eq_zero; rw [hnsz]; simp
              refine ⟨w, _, append_room h1 h2 ht ht2 hd2 he hlen hroom hnew (fun a _ => by rw [hnew0]; rfl) (fun _ => rfl), ρ, S, step_ext hi (fun k => ?_), ?_⟩
              · show hget (hset H l _) k = hget H k
                rw [List.append_nil, hget_hset]
                split
                · subst_vars; exact hes.symm
                · rfl
              · refine .os _ _ _ _ _ trivial fun sz1 m1 hm => ?_
                obtain ⟨rfl, rfl⟩ := hcnt sz1 m1 hm
                refine ⟨Nat.le_refl _, fun _ => .inr ⟨⟨by omega, fun _ _ _ e6 => by cases e6; have := hct _ _ _ rfl; simp; omega⟩, a, cap, vs, T, _, by simp; omega, by simp; omega, .inl hc0, hblk, .inl hc0⟩⟩
            · -- in place
              have ha' : a = ⟨ρ l, 0, none⟩ := ha.resolve_left hc0
              have hbsz' := hbsz.resolve_left hc0
              subst ha'
              have h5 : (len + ys.length) * szOf P e ≤ cap * szOf P e := Nat.mul_le_mul_right _ hroom
              have h6 : es.length * szOf P e + new.toList.length ≤ vs.toList.length := by
                rw [Nat.add_mul] at h5; simp; rw [hnsz, c3]; omega
              have hpl : (put vs.toList (es.length * szOf P e) new.toList).length = vs.toList.length := put_length _ _ _ h6
              have hst := run_storeCells_at (P := P) (ρ l) (es.length * szOf P e) T new.toList 0 vs w hblk (by simpa using h6) (fun v hv => flat_one (hnfl v hv))
              simp only [Nat.add_zero] at hst
              obtain ⟨g1, g2, g3, g4⟩ := setRow_grow (cs' := (put vs.toList (es.length * szOf P e) new.toList).toArray) hblk (by simpa using hpl)
              refine ⟨w.setRow (ρ l) (put vs.toList (es.length * szOf P e) new.toList).toArray, _, append_room h1 h2 ht ht2 hd2 he hlen hroom hnew (fun b hb => ?_) (fun e => by cases e), upd ρ l (ρ l), S, ?_, ?_⟩
              · cases hb
                rw [addr_add, ← c3, Nat.zero_add]
                exact hst
              · refine step_write hi l (.arr (szOf P e) (es ++ ys)) (ρ l) _ (.inr ⟨hlive, rfl⟩) g2 g1 g3 (.inr (comp_arr hes (by simp) (fun _ => rfl))) (.inl hnN) ?_
                intro _ hrelD
                have hg := rowAt_grow (b := new.toList) hrow (by simpa using hnsz) (by rw [c3]; exact Nat.le_trans h5 hbsz') (by simpa using hnrow)
                exact ⟨h0, fun _ => ⟨_, T, g4, hg.1, fun i c hc => ⟨(hg.2 i c hc).1, fun j x hj => by obtain ⟨v, hv, hr⟩ := (hg.2 i c hc).2 j x hj; exact ⟨v, hv, hrelD _ _ hr⟩⟩⟩⟩
              · refine .os _ _ _ _ _ trivial fun sz1 m1 hm => ?_
                obtain ⟨rfl, rfl⟩ := hcnt sz1 m1 hm
                refine ⟨Nat.le_refl _, fun _ => .inr ⟨⟨by omega, fun _ _ _ e6 => by cases e6; omega⟩, ⟨ρ l, 0, none⟩, cap, _, T, _, by rw [← c1, c3], by omega, .inr (by rw [upd_self]; simp), by rw [upd_self]; exact g4, .inr ?_⟩⟩
                simp only [Nat.zero_add, List.size_toArray, hpl]
                simpa using hbsz'
          · -- elsewhere
            have hold : ∃ old, (Builtin.firstCells (szOf P e) len (.slice (some a) len cap)).run P w.drew = .ok old w.drew ∧ old.size = len * szOf P e ∧ RowAt S w (szOf P e) es old := by
              have hrowOf : rowOf H (szOf P e) (.os l n 0 len) = some es := by
                simp only [rowOf, rowLen, hes]
                rw [if_pos ⟨c1, by omega, trivial⟩, List.drop_zero, List.take_of_length_le (by omega)]
              have hsized : sized (szOf P e) es = true := by
                simp only [sized, List.all_eq_true, beq_iff_eq]
                intro c hc
                obtain ⟨k, hk, rfl⟩ := List.getElem_of_mem hc
                exact (hrow.2 k _ (List.getElem?_eq_getElem hk)).1
              have hxr : RelA ρ S H w1 (.os l n 0 len) (.slice (some a) len cap) := (RelA.os l n 0 len (.slice (some a) len cap) trivial ho).heap rfl
              obtain ⟨_, hcx⟩ := rowOf_rel (P := P) h0 hi1 hxr hrowOf hsized
              obtain ⟨old, a1, a2, a3, _⟩ := hcx len (by omega)
              rw [List.take_of_length_le (by omega)] at a3
              exact ⟨old, a1, a2, a3.mono (w' := w) (fun _ h => h) (fun _ _ => rfl)⟩
            obtain ⟨old, hold1, hold2, hold3⟩ := hold
            obtain ⟨newCap, rest, hc1, hc2, hrun⟩ := append_grow (w := w) (old := old) (new := new1) (argTypes := argTypes) (ty := ty) h1 h2 ht ht2 hd2 he hby hz hzl hlen (by omega) hroom hold1 hnew1
            have hrow' : RowAt S w (szOf P e) (es ++ ys) (old ++ new1 ++ rest) := rowAt_append rest hold3 (by rw [hold2, c3]) (hnrow1.mono (w' := w) (fun _ h => h) (fun _ _ => rfl))
            have hheap : (w.drew.alloc (.cells (old ++ new1 ++ rest) e)).heap = w.heap.push (.cells (old ++ new1 ++ rest) e) := rfl
            have hoth : ∀ c, c ≠ w.heap.size → (w.drew.alloc (.cells (old ++ new1 ++ rest) e)).heap[c]? = w.heap[c]? := by
              intro c hc; rw [hheap, Array.getElem?_push, if_neg hc]
            have hat : (w.drew.alloc (.cells (old ++ new1 ++ rest) e)).heap[w.heap.size]? = some (.cells (old ++ new1 ++ rest) e) := by rw [hheap]; simp
            have hypos : 0 < ys.length := by omega
            refine ⟨_, _, hrun, upd ρ l w.heap.size, S, ?_, ?_⟩
            · refine step_write hi l (.arr (szOf P e) (es ++ ys)) w.heap.size _ (.inl rfl) hoth (fun b cs T fr hb => ?_) (by rw [hheap]; simp) (.inr (comp_arr hes (by simp) (fun hl => ?_))) (.inl hnN) ?_
              · have := lt_of_get hb
                exact ⟨cs, fr, by rw [hoth b (by omega)]; exact hb, rfl⟩
              · simp only [List.length_append] at hl; omega
              · intro _ hrelD
                exact ⟨h0, fun _ => ⟨_, e, hat, hrow'.1, fun i c hc => ⟨(hrow'.2 i c hc).1, fun j x hj => by obtain ⟨v, hv, hr⟩ := (hrow'.2 i c hc).2 j x hj; exact ⟨v, hv, hrelD _ _ hr⟩⟩⟩⟩
            · refine .os _ _ _ _ _ trivial fun sz1 m1 hm => ?_
              obtain ⟨rfl, rfl⟩ := hcnt sz1 m1 hm
              refine ⟨Nat.le_refl _, fun _ => .inr ⟨⟨by omega, fun _ _ _ e6 => by cases e6; omega⟩, ⟨w.heap.size, 0, none⟩, newCap, _, e, _, by rw [← c1, c3], by omega, .inr (by rw [upd_self]; simp), by rw [upd_self]; exact hat, .inr ?_⟩⟩
              simp only [Nat.zero_add, Array.size_append, hnsz1, hc2, hold2, ← Nat.add_mul]
              exact Nat.mul_le_mul_right _ (by omega)
      · split at h
        · -- over what lies behind
          rename_i hcond
          obtain ⟨c1, rfl, c4, hlim⟩ := hcond
          cases h
          cases hx with
          | os _ _ _ _ _ _ ho =>
            have hcnt : ∀ sz1 m1, Cnt (hset H l (.arr (szOf P e) (put es len ys))) l sz1 m1 → sz1 = szOf P e ∧ m1 = n := by
              intro sz1 m1 hm
              have hm := cnt_of (hget_set_self ..) hm
              simp only [rowsOf, Option.some.injEq, Prod.mk.injEq] at hm
              exact ⟨hm.1.symm, by rw [← hm.2, put_length _ _ _ (by omega), c1]⟩
            have hnN : ¬ N l := hnmu l n 0 len rfl
            rcases (ho (szOf P e) n (cnt_arr hes c1)).2 rfl with ⟨hn0, hlen0, bb, rfl⟩ | ⟨⟨hnn, hct⟩, a, cap, vs, T, fr, rfl, hle, ha, hblk, hbsz⟩
            · have hy0 : ys = [] := List.length_eq_zero_iff.1 (by omega)
              have hes0 : es = [] := List.length_eq_zero_iff.1 (by omega)
              subst hy0; subst hes0; subst hlen0; subst hn0
              refine ⟨w, _, append_room (n := 0) h1 h2 ht ht2 hd2 he hlen (by simp) hnew (fun a _ => by
                have hnew0 : new = #[] := by
                  apply Array.eq_empty_of_size_eq_zero; rw [hnsz]; simp
                rw [hnew0]; rfl) (fun _ => rfl), ρ, S, step_ext hi (fun k => ?_), ?_⟩
              · show hget (hset H l _) k = hget H k
                rw [hget_hset]
                split
                · subst_vars; rw [hes]; simp [put]
                · rfl
              · refine .os _ _ _ _ _ trivial fun sz1 m1 hm => ?_
                obtain ⟨rfl, rfl⟩ := hcnt sz1 m1 hm
                exact ⟨Nat.le_refl _, fun _ => .inl ⟨rfl, rfl, _, rfl⟩⟩
            · have h6 := hct _ _ _ rfl
              have hroom : len + ys.length ≤ cap := by omega
              have hc0 : cap ≠ 0 := by omega
              have ha' : a = ⟨ρ l, 0, none⟩ := by simpa using ha.resolve_left hc0
              have hbsz' := hbsz.resolve_left hc0
              subst ha'
              obtain ⟨w', hst, ρo, hρo, st⟩ := over_step (P := P) hi hes (ys := ys) (o := len) (by omega) (b := new.toList) (by simpa using hnsz) (by simpa using hnrow) (fun v hv => hnfl v hv)
              refine ⟨w', _, append_room h1 h2 ht ht2 hd2 he hlen hroom hnew (fun b hb => ?_) (fun e => by cases e), ρo, S, st.weaken (fun _ h => h.elim), ?_⟩
              · cases hb
                rw [addr_add, Nat.zero_add]
                exact hst
              · refine .os _ _ _ _ _ trivial fun sz1 m1 hm => ?_
                obtain ⟨rfl, rfl⟩ := hcnt sz1 m1 hm
                obtain ⟨cs', fr', g1, g2⟩ := st.grow _ _ _ _ hblk
                refine ⟨Nat.le_refl _, fun _ => .inr ⟨⟨hnn, fun _ _ _ e6 => by cases e6; exact h6⟩, ⟨ρ l, 0, none⟩, cap, cs', T, fr', rfl, hroom, .inr (by rw [hρo]; simp), by rw [hρo]; exact g1, .inr ?_⟩⟩
                rw [g2]; exact hbsz'
        · cases h
    · cases h
  · cases h

end
end Bz

/- copy, clear; comparisons of structs; maps. -/
namespace Bz
open Go

section
variable {P : Program} {w : World} {ρ : Nm} {S : Nat → Prop} {H : Heap}

theorem copy_rel {argTypes : Array TypeId} {ty t e : TypeId} (h1 : argTypes[0]? = some t) (ht : P.underlying t = some (.slice e)) (he : szOf P e ≠ 0) (hi : Inv ρ S H w)
    {x y : AV} {vx vy : Value} (hx : RelA ρ S H w x vx) (hy : RelA ρ S H w y vy) {ys : List (List D)} (hys : rowOf H (szOf P e) y = some ys) (hsd : sized (szOf P e) ys = true) {v : AV} {u : Upd}
    (h : acopy H (szOf P e) x ys = some (v, u)) :
    ∃ w' r, (Builtin.copy_ argTypes ty #[vx, vy]).run P w = .ok r w' ∧ ∃ ρ' S', Step No ρ S H w ρ' S' (applyU H u) w' ∧ RelA ρ' S' (applyU H u) w' v r := by
  have h0 : 0 < szOf P e := Nat.pos_of_ne_zero he
  obtain ⟨hlen, hcells⟩ := rowOf_rel (P := P) h0 hi hy hys hsd
  unfold acopy at h
  split at h
  · rename_i l n off len
    split at h
    · rename_i z es hes
      split at h
      · rename_i hcond
        obtain ⟨c1, c2, rfl⟩ := hcond
        cases h
        cases hx with
        | os _ _ _ _ _ _ ho =>
          have hz0 : len = 0 → ∀ (a : Option Addr) (cap : Nat), vx = .slice a 0 cap → ∃ w' r, (Builtin.copy_ argTypes ty #[vx, vy]).run P w = .ok r w' ∧ ∃ ρ' S', Step No ρ S H w ρ' S' (applyU H [(l, .arr (szOf P e) (put es off (ys.take (min ys.length len))))]) w' ∧
              RelA ρ' S' (applyU H [(l, .arr (szOf P e) (put es off (ys.take (min ys.length len))))]) w' (intV ((min ys.length len : Nat) : Int)) r := by
            intro hlen0 a cap e
            subst e; subst hlen0
            obtain ⟨fl, f1, f2, f3, f4⟩ := hcells 0 (by omega)
            have hfl : fl = #[] := by apply Array.eq_empty_of_size_eq_zero; rw [f2]; simp
            subst hfl
            have a1 : (#[Value.slice a 0 cap, vy] : Array Value)[0]? = some (.slice a 0 cap) := rfl
            have a2 : (#[Value.slice a 0 cap, vy] : Array Value)[1]? = some vy := rfl
            have hsz : (Go.sizeOf e).run P w = .ok (szOf P e) w := run_size he w
            refine ⟨w, goInt (0 : Nat), ?_, ρ, S, step_ext hi (fun k => ?_), by simpa [intV, goInt] using rel_int (ρ := ρ) (S := S) (w := w) .i64 0⟩
            · cases a <;> simp [Builtin.copy_, h1, run_underlying ht, hlen, hsz, f1]
              rfl
            · show hget (hset H l _) k = hget H k
              rw [hget_hset]
              split
              · subst_vars; rw [hes]; simp [put]
              · rfl
          rcases (ho _ n (cnt_arr hes c1)).2 rfl with ⟨_, hlen0, bb, e⟩ | ⟨_, a, cap, cs, T, fr, rfl, hle, ha, hblk, hbsz⟩
          · exact hz0 hlen0 bb 0 e
          obtain ⟨fl, f1, f2, f3, f4⟩ := hcells (min ys.length len) (by omega)
          have hrun : ∀ w', (storeCells a fl.toList).run P w = .ok () w' → (Builtin.copy_ argTypes ty #[.slice (some a) len cap, vy]).run P w = .ok (goInt (min ys.length len : Nat)) w' := by
            intro w' hst
            have a1 : (#[Value.slice (some a) len cap, vy] : Array Value)[0]? = some (.slice (some a) len cap) := rfl
            have a2 : (#[Value.slice (some a) len cap, vy] : Array Value)[1]? = some vy := rfl
            have hsz : (Go.sizeOf e).run P w = .ok (szOf P e) w := run_size he w
            have hm : Nat.min ys.length len = min ys.length len := rfl
            simp [Builtin.copy_, h1, run_underlying ht, hlen, hsz, hm, f1, hst]
          have htl : (ys.take (min ys.length len)).length = min ys.length len := by simp
          by_cases hc0 : cap = 0
          · have hz : min ys.length len = 0 := by omega
            have hfl : fl = #[] := by apply Array.eq_empty_of_size_eq_zero; rw [f2, hz]; simp
            have hempty : ys.take (min ys.length len) = [] := by rw [hz]; rfl
            refine ⟨w, _, hrun w (by rw [hfl]; rfl), ρ, S, step_ext hi (fun k => ?_), ?_⟩
            · show hget (hset H l _) k = hget H k
              rw [hempty, hget_hset]
              split
              · subst_vars; rw [hes]; simp [put]
              · rfl
            · exact rel_int _ _
          · have ha' : a = ⟨ρ l, off * szOf P e, none⟩ := ha.resolve_left hc0
            subst ha'
            obtain ⟨w', hst, ρo, _, st⟩ := over_step (P := P) hi hes (ys := ys.take (min ys.length len)) (o := off) (by rw [htl]; omega) (b := fl.toList) (by rw [htl]; simpa using f2) (by simpa using f3) f4
            exact ⟨w', _, hrun w' hst, _, S, st, rel_int _ _⟩
      · cases h
    · cases h
  · cases h

theorem clear_rel {argTypes : Array TypeId} {ty t e : TypeId} (h1 : argTypes[0]? = some t) (ht : P.underlying t = some (.slice e)) (he : szOf P e ≠ 0) {z : List D} (hz : zeroDs P e = some z) (hi : Inv ρ S H w)
    {l n off len s : Nat} {es : List (List D)} {vx : Value} (hx : RelA ρ S H w (.os l n off len) vx) (hes : hget H l = some (.arr s es)) (c1 : es.length = n) (c2 : off + len ≤ n) (c3 : z.length = s) (c4 : s = szOf P e) :
    ∃ w', (Builtin.clear_ argTypes ty #[vx]).run P w = .ok (.tuple #[]) w' ∧ ∃ ρ' S', Step No ρ S H w ρ' S' (hset H l (.arr s (put es off (List.replicate len (z.map norm))))) w' := by
  subst c4
  obtain ⟨i, zv, hinf, hzv, hzlen, _⟩ := zeroDs_rel hz
  have h0 : 0 < szOf P e := Nat.pos_of_ne_zero he
  have a1 : (#[vx] : Array Value)[0]? = some vx := rfl
  cases hx with
  | os _ _ _ _ _ _ ho =>
    have hz0 : len = 0 → ∀ (a : Option Addr) (cap : Nat), vx = .slice a 0 cap → ∃ w', (Builtin.clear_ argTypes ty #[vx]).run P w = .ok (.tuple #[]) w' ∧ ∃ ρ' S', Step No ρ S H w ρ' S' (hset H l (.arr (szOf P e) (put es off (List.replicate len (z.map norm))))) w' := by
      intro hl0 a cap e
      subst e; subst hl0
      refine ⟨w, ?_, ρ, S, step_ext hi (fun k => ?_)⟩
      · cases a <;> simp [Builtin.clear_, h1, run_underlying ht]
      · rw [hget_hset]
        split
        · subst_vars; rw [hes]; simp [put]
        · rfl
    rcases (ho _ n (cnt_arr hes c1)).2 rfl with ⟨_, hlen0, bb, e⟩ | ⟨_, a, cap, cs, T, fr, rfl, hle, ha, hblk, hbsz⟩
    · exact hz0 hlen0 bb 0 e
    by_cases hl0 : len = 0
    · subst hl0
      refine ⟨w, ?_, ρ, S, step_ext hi (fun k => ?_)⟩
      · simp [Builtin.clear_, h1, run_underlying ht]
      · rw [hget_hset]
        split
        · subst_vars; rw [hes]; simp [put]
        · rfl
    · have ha' : a = ⟨ρ l, off * szOf P e, none⟩ := ha.resolve_left (by omega)
      subst ha'
      have hzs : Builtin.zeroCells zv.cells len = (Array.range (len * szOf P e)).map (fun k => zv.cells[k % zv.cells.size]!) := by
        unfold Builtin.zeroCells; rw [← hzlen, c3]
      have hrow : RowAt S w (szOf P e) (List.replicate len (z.map norm)) (Builtin.zeroCells zv.cells len) := by
        rw [hzs]; exact zeros_row hz h0 c3 S w len hinf hzv _ fun k _ => rfl
      have hfl : ∀ v ∈ (Builtin.zeroCells zv.cells len).toList, Flat v := by
        intro v hv
        obtain ⟨k, hk, rfl⟩ := List.getElem_of_mem hv
        have hk' : k < len * szOf P e := by simpa [zeroCells_size, ← hzlen, c3] using hk
        obtain ⟨d1, d2, d3⟩ := divmod h0 hk'
        have hrep : (List.replicate len (z.map norm))[k / szOf P e]? = some (z.map norm) := by rw [List.getElem?_replicate, if_pos d1]
        have hj : k % szOf P e < (z.map norm).length := by rw [List.length_map, c3]; exact d2
        obtain ⟨v, hv, hr⟩ := (hrow.2 _ (z.map norm) hrep).2 _ _ (List.getElem?_eq_getElem hj)
        rw [← d3] at hv
        have : (Builtin.zeroCells zv.cells len).toList[k]? = some v := by simpa using hv
        rw [List.getElem?_eq_getElem hk] at this
        cases this; exact hr.flat
      obtain ⟨w', hst, ρo, _, st⟩ := over_step (P := P) hi hes (ys := List.replicate len (z.map norm)) (o := off) (by simp; omega) (b := (Builtin.zeroCells zv.cells len).toList) (by simp [zeroCells_size, ← hzlen, c3]) (by simpa using hrow) hfl
      refine ⟨w', ?_, _, S, st⟩
      obtain ⟨m, rfl⟩ : ∃ m, len = m + 1 := ⟨len - 1, by omega⟩
      simp [Builtin.clear_, h1, run_underlying ht, run_zero hinf hzv, hst]

/-! ### structs held against each other -/
theorem scalEq_run {k : SK} {x y : D} {b : Bool} (h : scalEq x y = some b) (hx : skOK k x = true) (hy : skOK k y = true) {t : TypeId} (ht : skOf P t = some k) {v u : Value} (hv : RelD S w x v) (hu : RelD S w y u) (d : Nat) :
    (Op.equalIn (d + 1) t v u).run P w = .ok b w := by
  unfold skOf at ht
  cases k with
  | int kk =>
    have hty : P.underlying t = some (.int kk) := by
      split at ht <;> cases ht
      assumption
    cases x <;> simp [skOK] at hx
    cases y <;> simp [skOK] at hy
    subst_vars
    cases hv; cases hu
    rename_i a1 _ a2
    simp only [scalEq, if_true] at h
    cases h
    exact run_equalIn_int w d t _ _ _ _ hty
  | bool =>
    have hty : P.underlying t = some .bool := by
      split at ht <;> cases ht
      assumption
    cases x <;> simp [skOK] at hx
    cases y <;> simp [skOK] at hy
    cases hv; cases hu
    simp only [scalEq] at h
    cases h
    exact run_equalIn_bool' w d t _ _ hty
  | str =>
    have hty : P.underlying t = some .string := by
      split at ht <;> cases ht
      assumption
    cases x <;> simp [skOK] at hx
    cases y <;> simp [skOK] at hy
    cases hv; cases hu
    simp only [scalEq] at h
    cases h
    rw [run_equalIn_string w d t _ _ hty, ByteArray.toList_mk, ByteArray.toList_mk]

theorem part_scal {t : TypeId} {k : SK} (ht : skOf P t = some k) {vs : Array Value} {o : Nat} {v : Value} (h : vs[o]? = some v) : (part t vs o).run P w = .ok v w := by
  unfold part
  have hg : aggOf P t = some false := by
    unfold skOf at ht
    unfold aggOf
    split at ht <;> simp_all
  simp only [Sem.run_bind, run_agg hg, Result.andThen_ok, Bool.false_eq_true, if_false, h, Sem.run_pure]

theorem eqFields_run (d : Nat) {xs ys : Array Value} : ∀ (fs : List Field) (ks : List SK) (o : Nat) (a b : List AV) (r : Bool), sksOf P fs = some ks → fs.map (·.offset) = (List.range fs.length).map (o + ·) →
    cellsOK ks a = true → cellsOK ks b = true → aggEq a b = some r →
    (∀ (k : Nat) (x : AV), a[k]? = some x → ∃ v, xs[o + k]? = some v ∧ RelA ρ S H w x v) → (∀ (k : Nat) (x : AV), b[k]? = some x → ∃ v, ys[o + k]? = some v ∧ RelA ρ S H w x v) →
    (Op.eqFields (d + 1) xs ys fs).run P w = .ok r w
  | [], ks, o, a, b, r, hk, _, ha, hb, h, _, _ => by
    simp only [sksOf] at hk; cases hk
    cases a <;> simp [cellsOK] at ha
    cases b <;> simp [cellsOK] at hb
    simp only [aggEq] at h; cases h
    rfl
  | f :: fs, ks, o, a, b, r, hk, hoff, ha, hb, h, hxs, hys => by
    simp only [sksOf] at hk
    split at hk
    · rename_i k as hk1 hk2
      split at hk
      · rename_i hn
        cases hk
        simp only [Bool.and_eq_true, bne_iff_ne, ne_eq, beq_iff_eq] at hn
        cases a with
        | nil => simp [cellsOK] at ha
        | cons x a =>
          cases b with
          | nil => simp [cellsOK] at hb
          | cons y b =>
            cases x with
            | d x =>
              cases y with
              | d y =>
                simp only [cellsOK, Bool.and_eq_true] at ha hb
                have ho : f.offset = o := by
                  have := congrArg (fun l => l.head?) hoff
                  simp [List.range_succ_eq_map] at this
                  exact this
                have hrest : fs.map (·.offset) = (List.range fs.length).map (o + 1 + ·) := by
                  have := congrArg List.tail hoff
                  simp [List.range_succ_eq_map] at this
                  rw [this]
                  apply List.map_congr_left
                  intro q _; simp only [Function.comp]; omega
                obtain ⟨v, hv, hrv⟩ := hxs 0 _ rfl
                obtain ⟨u, hu, hru⟩ := hys 0 _ rfl
                rw [Nat.add_zero] at hv hu
                have hv' : RelD S w x v := by cases hrv; assumption
                have hu' : RelD S w y u := by cases hru; assumption
                have ih := eqFields_run d (xs := xs) (ys := ys) fs as (o + 1) a b
                simp only [Op.eqFields]
                rw [if_pos hn.1]
                simp only [Sem.run_bind, ho, part_scal hk1 hv, part_scal hk1 hu, Result.andThen_ok]
                have hxs' : ∀ (k : Nat) (x : AV), a[k]? = some x → ∃ v, xs[o + 1 + k]? = some v ∧ RelA ρ S H w x v := fun k x hkx => by
                  have := hxs (k + 1) x (by simpa using hkx); rwa [show o + (k + 1) = o + 1 + k by omega] at this
                have hys' : ∀ (k : Nat) (x : AV), b[k]? = some x → ∃ v, ys[o + 1 + k]? = some v ∧ RelA ρ S H w x v := fun k x hkx => by
                  have := hys (k + 1) x (by simpa using hkx); rwa [show o + (k + 1) = o + 1 + k by omega] at this
                simp only [aggEq] at h
                split at h
                · rename_i hs
                  rw [scalEq_run hs ha.1 hb.1 hk1 hv' hu' d]
                  simp only [Result.andThen_ok, Bool.not_true, Bool.false_eq_true, if_false]
                  exact ih r hk2 hrest ha.2 hb.2 h hxs' hys'
                · rename_i hs
                  obtain ⟨_, _, rfl⟩ := Option.map_eq_some_iff.1 h
                  rw [scalEq_run hs ha.1 hb.1 hk1 hv' hu' d]
                  rfl
                · cases h
              | _ => simp [cellsOK] at hb
            | _ => simp [cellsOK] at ha
      · cases hk
    · cases hk

/-- what keyKind says of a struct type -/
theorem keyKind_struct {t : TypeId} {ks : List SK} (h : keyKind P t = some (true, ks)) :
    ∃ fs, P.underlying t = some (.struct fs) ∧ fs.toList.map (·.offset) = List.range fs.toList.length ∧ P.stoodInHeld t = false ∧ P.eqGuardType P.depth t = false ∧ sksOf P fs.toList = some ks := by
  unfold keyKind at h
  split at h
  · rename_i fs hfs
    split at h
    · rename_i hc
      simp only [Bool.and_eq_true, beq_iff_eq, Bool.not_eq_true'] at hc
      obtain ⟨⟨⟨c1, c2⟩, _⟩, c3⟩ := hc
      obtain ⟨q, hq, e⟩ := Option.map_eq_some_iff.1 h
      cases e
      exact ⟨fs, hfs, by simpa using c1, c2, c3, hq⟩
    · cases h
  · obtain ⟨q, _, e⟩ := Option.map_eq_some_iff.1 h
    cases e

theorem keyKind_scal {t : TypeId} {ks : List SK} (h : keyKind P t = some (false, ks)) : ∃ k, ks = [k] ∧ skOf P t = some k := by
  unfold keyKind at h
  split at h
  · split at h
    · obtain ⟨q, hq, e⟩ := Option.map_eq_some_iff.1 h; cases e
    · cases h
  · obtain ⟨q, hq, e⟩ := Option.map_eq_some_iff.1 h
    cases e
    exact ⟨q, rfl, hq⟩

theorem agg_cells {cs : List AV} {v : Value} (h : RelA ρ S H w (.agg cs) v) : ∃ vs : Array Value, v = .agg vs ∧ cs.length = vs.size ∧ ∀ (k : Nat) (x : AV), cs[k]? = some x → ∃ u, vs[k]? = some u ∧ RelA ρ S H w x u := by
  cases h with
  | agg _ vs ys h1 h2 h3 => exact ⟨vs, rfl, h1, fun k x hk => ⟨_, h2 k x hk, h3 k x hk⟩⟩

theorem equal_struct {t : TypeId} {ks : List SK} (hk : keyKind P t = some (true, ks)) {a b : List AV} (ha : cellsOK ks a = true) (hb : cellsOK ks b = true) {r : Bool} (h : aggEq a b = some r) {xs ys : Array Value}
    (hx : RelA ρ S H w (.agg a) (.agg xs)) (hy : RelA ρ S H w (.agg b) (.agg ys)) : (Op.equalIn 10000 t (.agg xs) (.agg ys)).run P w = .ok r w := by
  obtain ⟨fs, h1, h2, h3, h4, h5⟩ := keyKind_struct hk
  have hf : P.fieldsOf t = fs := by unfold Program.fieldsOf; rw [h1]
  rw [run_equalIn_struct w 9999 t xs ys (by rw [hf]; exact h1) h3, hf]
  obtain ⟨xs', e1, _, g1⟩ := agg_cells hx; cases e1
  obtain ⟨ys', e2, _, g2⟩ := agg_cells hy; cases e2
  refine eqFields_run 9998 fs.toList ks 0 a b r h5 (by rw [h2]; simp) ha hb h (fun k x hkx => by simpa using g1 k x hkx) (fun k x hkx => by simpa using g2 k x hkx)

theorem eqagg_rel {neg : Bool} {t : TypeId} {ks : List SK} (hk : keyKind P t = some (true, ks)) {x y v : AV} {a b : Value} (qx qy : Operand) (hx : RelA ρ S H w x a) (hy : RelA ρ S H w y b) (h : aeqagg ks neg x y = some v) :
    ∃ z, ((do eqGuard (if neg then .neq else .eql) t qx qy a b; binOp (if neg then .neq else .eql) t a b : Sem Value)).run P w = .ok z w ∧ RelA ρ S H w v z := by
  unfold aeqagg at h
  split at h
  · rename_i cs ds
    split at h
    · rename_i hc
      simp only [Bool.and_eq_true] at hc
      obtain ⟨r, hr, rfl⟩ := Option.map_eq_some_iff.1 h
      obtain ⟨xs, rfl, _, _⟩ := agg_cells hx
      obtain ⟨ys, rfl, _, _⟩ := agg_cells hy
      obtain ⟨_, _, _, _, hg, _⟩ := keyKind_struct hk
      have he := equal_struct hk hc.1 hc.2 hr hx hy
      simp only [Sem.run_bind, run_eqGuard_agg w _ t qx qy xs ys hg, Result.andThen_ok]
      cases neg
      · simp only [Bool.false_eq_true, if_false, run_eql_struct, he, Result.andThen_ok]
        exact ⟨_, rfl, rel_bool _⟩
      · simp only [if_true, run_neq_struct, he, Result.andThen_ok]
        exact ⟨_, rfl, rel_bool _⟩
    · cases h
  · cases h

end
end Bz

/- Maps. -/
namespace Bz
open Go

section
variable {P : Program} {w : World} {ρ : Nm} {S : Nat → Prop} {H : Heap}

/-- two keys of one kind -/
theorem key_equal {kt : TypeId} {ag : Bool} {ks : List SK} (hk : keyKind P kt = some (ag, ks)) {k q : AV} (h1 : keyOK ag ks k = true) (h2 : keyOK ag ks q = true) {r : Bool} (h : avEq k q = some r) {v u : Value}
    (hv : RelA ρ S H w k v) (hu : RelA ρ S H w q u) : (Op.equal kt v u).run P w = .ok r w := by
  show (Op.equalIn 10000 kt v u).run P w = .ok r w
  cases ag with
  | true =>
    cases k <;> simp [keyOK] at h1
    cases q <;> simp [keyOK] at h2
    obtain ⟨xs, rfl, _, _⟩ := agg_cells hv
    obtain ⟨ys, rfl, _, _⟩ := agg_cells hu
    exact equal_struct hk h1 h2 h hv hu
  | false =>
    obtain ⟨s, rfl, hs⟩ := keyKind_scal hk
    cases k <;> simp [keyOK] at h1
    cases q <;> simp [keyOK] at h2
    cases hv; cases hu
    exact scalEq_run h h1 h2 hs (by assumption) (by assumption) 9999

/-- entries, on both sides -/
def EntsRel (ρ : Nm) (S : Nat → Prop) (H : Heap) (w : World) (ag : Bool) (ks : List SK) (es : List (AV × AV)) (ents : List MapEntry) : Prop :=
  ents.length = es.length ∧ ∀ (i : Nat) (k v : AV), es[i]? = some (k, v) → ∃ e : MapEntry, ents[i]? = some e ∧ keyOK ag ks k = true ∧ refs v = [] ∧ solid v = true ∧ RelA ρ S H w k e.key ∧ RelA ρ S H w v e.val

theorem EntsRel.tail {ag : Bool} {ks : List SK} {p : AV × AV} {es : List (AV × AV)} {e : MapEntry} {ents : List MapEntry} (h : EntsRel ρ S H w ag ks (p :: es) (e :: ents)) : EntsRel ρ S H w ag ks es ents :=
  ⟨by simpa using h.1, fun i k v hi => by simpa using h.2 (i + 1) k v (by simpa using hi)⟩

/-- where the key is found -/
def idxE (k : AV) : List (AV × AV) → Option Nat
  | [] => none
  | (q, _) :: r => match avEq k q with
    | some true => some 0
    | _ => (idxE k r).map (· + 1)

theorem findAsking_run {kt : TypeId} {ag : Bool} {ks : List SK} (hk : keyKind P kt = some (ag, ks)) {k : AV} (h1 : keyOK ag ks k = true) {v : Value} (hv : RelA ρ S H w k v) : ∀ (es : List (AV × AV)) (ents : List MapEntry) (i : Nat),
    EntsRel ρ S H w ag ks es ents → ∀ r, findE k es = some r →
    (Instr.findAsking kt v ents i).run P w = .ok ((idxE k es).bind fun j => (ents[j]?).map fun e => (i + j, e.val)) w ∧ (r.isSome = (idxE k es).isSome) ∧
      ∀ x, r = some x → ∃ j q, idxE k es = some j ∧ es[j]? = some (q, x)
  | [], ents, i, he, r, h => by
    simp only [findE] at h; cases h
    have : ents = [] := List.length_eq_zero_iff.1 (by simpa using he.1)
    subst this
    exact ⟨rfl, rfl, fun x hx => by cases hx⟩
  | (q, x) :: es, ents, i, he, r, h => by
    cases ents with
    | nil => have := he.1; simp at this
    | cons e ents =>
      obtain ⟨e', he', g1, g2, g3, g4, g5⟩ := he.2 0 q x rfl
      simp at he'; subst he'
      simp only [findE] at h
      simp only [Instr.findAsking, Sem.run_bind]
      split at h
      · rename_i hq
        cases h
        rw [key_equal hk h1 g1 hq hv g4]
        simp only [Result.andThen_ok, if_true, Sem.run_pure, idxE, hq]
        exact ⟨rfl, rfl, fun y hy => by cases hy; exact ⟨0, q, rfl, rfl⟩⟩
      · rename_i hq
        rw [key_equal hk h1 g1 hq hv g4]
        obtain ⟨a1, a2, a3⟩ := findAsking_run hk h1 hv es ents (i + 1) he.tail r h
        simp only [Result.andThen_ok, Bool.false_eq_true, if_false, a1, idxE, hq]
        refine ⟨?_, by rw [a2]; cases idxE k es <;> rfl, fun y hy => ?_⟩
        · cases hx : idxE k es with
          | none => rfl
          | some j => simp [Nat.add_assoc, Nat.add_comm 1 j]
        · obtain ⟨j, q', b1, b2⟩ := a3 y hy
          exact ⟨j + 1, q', by rw [b1]; rfl, by simpa using b2⟩
      · cases h

/-- findNow comes to the same -/
theorem findNow_eq {kt : TypeId} {d : TypeDesc} (hd : P.underlying kt = some d) (v : Value) : ∀ (ents : List MapEntry) (i : Nat) (r : Option (Nat × Value)), Instr.findNow d v ents i = some r → (Instr.findAsking kt v ents i).run P w = .ok r w
  | [], i, r, h => by simp only [Instr.findNow] at h; cases h; rfl
  | e :: ents, i, r, h => by
    simp only [Instr.findNow] at h
    have key : ∀ b, Instr.sameNow d v e.key = some b → (Op.equal kt v e.key).run P w = .ok b w := by
      intro b hb
      show (Op.equalIn 10000 kt v e.key).run P w = .ok b w
      unfold Instr.sameNow at hb
      generalize e.key = u at hb ⊢
      split at hb
      · rename_i k a k' b'
        split at hb
        · subst_vars; cases hb; exact run_equalIn_int w 9999 kt _ _ _ _ hd
        · cases hb
      · cases hb
        rw [run_equalIn_string w 9999 kt _ _ hd, beq_toListBytes]
      · cases hb; exact run_equalIn_bool' w 9999 kt _ _ hd
      · cases hb
    simp only [Instr.findAsking, Sem.run_bind]
    split at h
    · rename_i hs
      cases h
      rw [key true hs]; rfl
    · rename_i hs
      rw [key false hs]
      simp only [Result.andThen_ok, Bool.false_eq_true, if_false]
      exact findNow_eq hd v ents (i + 1) r h
    · cases h

theorem findKey_run {kt : TypeId} {ag : Bool} {ks : List SK} (hk : keyKind P kt = some (ag, ks)) {k : AV} (h1 : keyOK ag ks k = true) {v : Value} (hv : RelA ρ S H w k v) {es : List (AV × AV)} {ents : List MapEntry}
    (he : EntsRel ρ S H w ag ks es ents) {r : Option AV} (h : findE k es = some r) :
    (Instr.findKey kt v ents).run P w = .ok ((idxE k es).bind fun j => (ents[j]?).map fun e => (j, e.val)) w ∧ (r.isSome = (idxE k es).isSome) ∧ ∀ x, r = some x → ∃ j q, idxE k es = some j ∧ es[j]? = some (q, x) := by
  obtain ⟨a1, a2, a3⟩ := findAsking_run hk h1 hv es ents 0 he r h
  simp only [Nat.zero_add] at a1
  refine ⟨?_, a2, a3⟩
  have hd : ∃ d, P.underlying kt = some d := by
    cases ag with
    | true => obtain ⟨fs, h, _⟩ := keyKind_struct hk; exact ⟨_, h⟩
    | false =>
      obtain ⟨s, _, hs⟩ := keyKind_scal hk
      unfold skOf at hs
      cases hu : P.underlying kt with
      | none => simp [hu] at hs
      | some d => exact ⟨d, rfl⟩
  obtain ⟨d, hd⟩ := hd
  unfold Instr.findKey
  simp only [Sem.run_bind, run_underlying hd, Result.andThen_ok]
  cases hn : Instr.findNow d v ents 0 with
  | none => exact a1
  | some q =>
    have := findNow_eq (w := w) hd v ents 0 q hn
    rw [a1] at this
    cases this
    rfl

/-- keys of these kinds can be keys -/
theorem checkFields (n : Nat) (empty : Bool) {vs : Array Value} : ∀ (fs : List Field) (ks : List SK) (o : Nat) (cs : List AV), sksOf P fs = some ks → fs.map (·.offset) = (List.range fs.length).map (o + ·) → cellsOK ks cs = true →
    (∀ (k : Nat) (x : AV), cs[k]? = some x → ∃ v, vs[o + k]? = some v ∧ RelA ρ S H w x v) →
    (forIn fs PUnit.unit fun (f : Field) (_ : PUnit) => (do
      if f.name ≠ "_" then Instr.checkKey empty (n + 1) f.type (← part f.type vs f.offset)
      pure (ForInStep.yield PUnit.unit) : Sem (ForInStep PUnit))).run P w = .ok PUnit.unit w
  | [], _, _, _, _, _, _, _ => by simp
  | f :: fs, ks, o, cs, hk, hoff, hc, hv => by
    simp only [sksOf] at hk
    split at hk
    · rename_i k as hk1 hk2
      split at hk
      · rename_i hn
        cases hk
        simp only [Bool.and_eq_true, bne_iff_ne, ne_eq, beq_iff_eq] at hn
        cases cs with
        | nil => simp [cellsOK] at hc
        | cons x cs =>
          cases x with
          | d x =>
            simp only [cellsOK, Bool.and_eq_true] at hc
            have ho : f.offset = o := by
              have := congrArg (fun l => l.head?) hoff
              simp [List.range_succ_eq_map] at this
              exact this
            have hrest : fs.map (·.offset) = (List.range fs.length).map (o + 1 + ·) := by
              have := congrArg List.tail hoff
              simp [List.range_succ_eq_map] at this
              rw [this]
              apply List.map_congr_left
              intro q _; simp only [Function.comp]; omega
            obtain ⟨v, hv0, hrv⟩ := hv 0 _ rfl
            rw [Nat.add_zero] at hv0
            have hv' : ∀ (k : Nat) (x : AV), cs[k]? = some x → ∃ v, vs[o + 1 + k]? = some v ∧ RelA ρ S H w x v := fun k x hkx => by
              have := hv (k + 1) x (by simpa using hkx); rwa [show o + (k + 1) = o + 1 + k by omega] at this
            have hty : ∃ d, P.underlying f.type = some d ∧ ((∃ k, d = .int k) ∨ d = .bool ∨ d = .string) := by
              unfold skOf at hk1
              split at hk1 <;> cases hk1
              · rename_i k h; exact ⟨_, h, .inl ⟨k, rfl⟩⟩
              · rename_i h; exact ⟨_, h, .inr (.inl rfl)⟩
              · rename_i h; exact ⟨_, h, .inr (.inr rfl)⟩
            obtain ⟨d, hd, hdk⟩ := hty
            have hck : (Instr.checkKey empty (n + 1) f.type v).run P w = .ok () w := by
              simp only [Instr.checkKey, Sem.run_bind, run_underlying hd, Result.andThen_ok]
              rcases hdk with ⟨k, rfl⟩ | rfl | rfl <;> rfl
            simp only [List.forIn_cons, Sem.run_bind]
            rw [if_pos hn.1]
            simp only [Sem.run_bind, ho, part_scal hk1 hv0, Result.andThen_ok, hck, Sem.run_pure]
            exact checkFields n empty fs as (o + 1) cs hk2 hrest hc.2 hv'
          | _ => simp [cellsOK] at hc
      · cases hk
    · cases hk

theorem checkKey_any {kt : TypeId} {ag : Bool} {ks : List SK} (hk : keyKind P kt = some (ag, ks)) {k : AV} (h1 : keyOK ag ks k = true) {v : Value} (hv : RelA ρ S H w k v) (empty : Bool) (n : Nat) : (Instr.checkKey empty (n + 2) kt v).run P w = .ok () w := by
  cases ag with
  | true =>
    obtain ⟨fs, h2, h3, _, _, h5⟩ := keyKind_struct hk
    cases k <;> simp [keyOK] at h1
    obtain ⟨vs, rfl, _, hc⟩ := agg_cells hv
    have := checkFields (P := P) (w := w) n empty (vs := vs) fs.toList ks 0 _ h5 (by rw [h3]; simp) h1 (fun k x hk => by simpa using hc k x hk)
    rw [Instr.checkKey]
    simp only [Sem.run_bind, run_underlying h2, Result.andThen_ok]
    rw [← Array.forIn_toList]
    simp at this ⊢
    rw [this]; rfl
  | false =>
    obtain ⟨s, rfl, hs⟩ := keyKind_scal hk
    unfold skOf at hs
    rw [Instr.checkKey]
    simp only [Sem.run_bind]
    cases hu : P.underlying kt with
    | none => simp [hu] at hs
    | some d =>
      simp only [run_underlying hu, Result.andThen_ok]
      rw [hu] at hs
      cases d <;> simp at hs <;> rfl

theorem checkKey_run {kt : TypeId} {ag : Bool} {ks : List SK} (hk : keyKind P kt = some (ag, ks)) {k : AV} (h1 : keyOK ag ks k = true) {v : Value} (hv : RelA ρ S H w k v) (empty : Bool) : (Instr.checkKey empty 10000 kt v).run P w = .ok () w :=
  checkKey_any hk h1 hv empty 9998

theorem scalEq_true {x y : D} (h : scalEq x y = some true) : x = y := by
  cases x <;> cases y <;> simp only [scalEq] at h <;> (first | (cases h; done) | skip)
  · split at h
    · subst_vars; simpa using h
    · cases h
  · simpa using h
  · simpa using h

theorem aggEq_true : ∀ {a b : List AV}, aggEq a b = some true → a = b
  | [], [], _ => rfl
  | .d x :: r, .d y :: s, h => by
    simp only [aggEq] at h
    split at h
    · rename_i e; rw [scalEq_true e, aggEq_true h]
    · obtain ⟨_, _, e⟩ := Option.map_eq_some_iff.1 h; cases e
    · cases h
  | [], _ :: _, h => by simp [aggEq] at h
  | .d _ :: _, [], h => by simp [aggEq] at h
  | .d _ :: _, .undef :: _, h => by simp [aggEq] at h
  | .d _ :: _, .os .. :: _, h => by simp [aggEq] at h
  | .d _ :: _, .pv .. :: _, h => by simp [aggEq] at h
  | .d _ :: _, .pa .. :: _, h => by simp [aggEq] at h
  | .d _ :: _, .vp .. :: _, h => by simp [aggEq] at h
  | .d _ :: _, .map _ :: _, h => by simp [aggEq] at h
  | .d _ :: _, .fn .. :: _, h => by simp [aggEq] at h
  | .d _ :: _, .agg _ :: _, h => by simp [aggEq] at h
  | .d _ :: _, .tup _ :: _, h => by simp [aggEq] at h
  | .undef :: _, _, h => by simp [aggEq] at h
  | .os .. :: _, _, h => by simp [aggEq] at h
  | .pv .. :: _, _, h => by simp [aggEq] at h
  | .pa .. :: _, _, h => by simp [aggEq] at h
  | .vp .. :: _, _, h => by simp [aggEq] at h
  | .map _ :: _, _, h => by simp [aggEq] at h
  | .fn .. :: _, _, h => by simp [aggEq] at h
  | .agg _ :: _, _, h => by simp [aggEq] at h
  | .tup _ :: _, _, h => by simp [aggEq] at h

theorem avEq_true {a b : AV} (h : avEq a b = some true) : a = b := by
  cases a <;> cases b <;> simp only [avEq] at h
  all_goals first
    | rw [scalEq_true h]
    | rw [aggEq_true h]
    | cases h

theorem idxE_spec {k : AV} : ∀ {es : List (AV × AV)} {j : Nat}, idxE k es = some j → ∃ x, es[j]? = some (k, x)
  | [], j, h => by simp [idxE] at h
  | (q, x) :: r, j, h => by
    simp only [idxE] at h
    split at h
    · rename_i e; cases h
      exact ⟨x, by rw [avEq_true e]; rfl⟩
    · obtain ⟨i, hi, rfl⟩ := Option.map_eq_some_iff.1 h
      obtain ⟨y, hy⟩ := idxE_spec hi
      exact ⟨y, by simpa using hy⟩

theorem setE_idx (k v : AV) : ∀ (es : List (AV × AV)), setE k v es = match idxE k es with | some j => es.set j (k, v) | none => es ++ [(k, v)]
  | [] => rfl
  | (q, x) :: r => by
    simp only [setE, idxE]
    cases h : avEq k q with
    | none =>
      simp only [reduceCtorEq, if_false, setE_idx k v r]
      cases idxE k r <;> rfl
    | some b =>
      cases b with
      | true => simp only [if_true]; rw [avEq_true h]; rfl
      | false =>
        simp only [Option.some.injEq, Bool.false_eq_true, if_false, setE_idx k v r]
        cases idxE k r <;> rfl

theorem delE_idx (k : AV) : ∀ (es : List (AV × AV)), delE k es = match idxE k es with | some j => es.eraseIdx j | none => es
  | [] => rfl
  | (q, x) :: r => by
    simp only [delE, idxE]
    cases h : avEq k q with
    | none =>
      simp only [reduceCtorEq, if_false, delE_idx k r]
      cases idxE k r <;> rfl
    | some b =>
      cases b with
      | true => simp only [if_true]; rfl
      | false =>
        simp only [Option.some.injEq, Bool.false_eq_true, if_false, delE_idx k r]
        cases idxE k r <;> rfl

theorem comp_mp {l : Nat} {ag ag' : Bool} {ks ks' : List SK} {es es' : List (AV × AV)} (h : hget H l = some (.mp ag ks es)) : Comp ρ H l (upd ρ l (ρ l)) (hset H l (.mp ag' ks' es')) l := by
  refine ⟨fun sz m hm => ?_, fun hm => ?_, fun _ => ⟨⟨ag, ks, es, h⟩, upd_self ..⟩⟩
  · have := cnt_of (hget_set_self ..) hm; cases this
  · obtain ⟨e, he⟩ := hm; rw [hget_set_self] at he; cases he

theorem map_step {l : Nat} {ag : Bool} {ks : List SK} {es es' : List (AV × AV)} (hi : Inv ρ S H w) (h : hget H l = some (.mp ag ks es)) {ents ents' : Array MapEntry} {clk clk' : Nat} (hb : w.heap[ρ l]? = some (.map ents clk)) {w' : World}
    (hw : w'.heap = w.heap.setIfInBounds (ρ l) (.map ents' clk')) (hr : EntsRel ρ S H w ag ks es' ents'.toList) (hbn : Born ents' clk') (hout : Outer w w' := by exact ⟨rfl, rfl, rfl, by first | exact Nat.le_refl _ | exact Nat.le_add_right _ _⟩) : Step No ρ S H w (upd ρ l (ρ l)) S (hset H l (.mp ag ks es')) w' := by
  have hlt := lt_of_get hb
  have hoth : ∀ c, c ≠ ρ l → w'.heap[c]? = w.heap[c]? := by
    intro c hc; rw [hw, Array.getElem?_setIfInBounds_ne (fun e => hc e.symm)]
  have hat : w'.heap[ρ l]? = some (.map ents' clk') := by rw [hw]; simp [hlt]
  refine step_write hi l _ (ρ l) w' (.inr ⟨⟨_, h, rfl⟩, rfl⟩) hoth (fun b cs T fr hb' => ?_) (by rw [hw]; simp) (.inr (comp_mp h)) (.inl id) ?_ hout
  · by_cases e : b = ρ l
    · subst e; rw [hb] at hb'; cases hb'
    · exact ⟨cs, fr, by rw [hoth b e]; exact hb', rfl⟩
  · intro hrel _
    refine ⟨ents', clk', hat, ⟨by simpa using hr.1, hbn⟩, fun i k v hik => ?_⟩
    obtain ⟨e, a1, a2, a3, a4, a5, a6⟩ := hr.2 i k v hik
    exact ⟨e, by simpa using a1, a2, a3, a4, hrel _ _ (fun _ _ => .inr id) a5, hrel _ _ (fun _ _ => .inr id) a6⟩

theorem entsRel_of {l : Nat} {ag : Bool} {ks : List SK} {es : List (AV × AV)} (hi : Inv ρ S H w) (h : hget H l = some (.mp ag ks es)) :
    ∃ ents clk, w.heap[ρ l]? = some (.map ents clk) ∧ EntsRel ρ S H w ag ks es ents.toList := by
  obtain ⟨ents, clk, hb, hsz, hr⟩ := hi.obj l _ h
  exact ⟨ents, clk, hb, by simpa using hsz.1, fun i k v hik => by obtain ⟨e, a1, a2⟩ := hr i k v hik; exact ⟨e, by simpa using a1, a2⟩⟩
theorem born_of {l : Nat} {ag : Bool} {ks : List SK} {es : List (AV × AV)} (hi : Inv ρ S H w) (h : hget H l = some (.mp ag ks es)) {ents : Array MapEntry} {clk : Nat} (hb : w.heap[ρ l]? = some (.map ents clk)) : Born ents clk := by
  obtain ⟨ents', clk', hb', hsz, _⟩ := hi.obj l _ h
  rw [hb] at hb'
  cases hb'
  exact hsz.2
theorem Born.push {ents : Array MapEntry} {clk : Nat} (h : Born ents clk) (k v : Value) : Born (ents.push { key := k, val := v, born := clk }) (clk + 1) := by
  refine ⟨?_, fun e he => ?_⟩
  · rw [Array.toList_push, List.map_append]
    refine List.nodup_append.2 ⟨h.1, by simp, fun a ha b hb => ?_⟩
    obtain ⟨e, he, rfl⟩ := List.mem_map.1 ha
    have := h.2 e he
    simp at hb
    omega
  · rw [Array.toList_push] at he
    rcases List.mem_append.1 he with he | he
    · have := h.2 e he; omega
    · simp at he; subst he; simp
theorem Born.same {ents ents' : Array MapEntry} {clk : Nat} (h : Born ents clk) (e : ents'.toList.map (·.born) = ents.toList.map (·.born)) : Born ents' clk := by
  refine ⟨by rw [e]; exact h.1, fun x hx => ?_⟩
  have : x.born ∈ ents.toList.map (·.born) := by rw [← e]; exact List.mem_map_of_mem hx
  obtain ⟨y, hy, e2⟩ := List.mem_map.1 this
  have := h.2 y hy
  omega
theorem Born.sub {ents ents' : Array MapEntry} {clk : Nat} (h : Born ents clk) (e : ents'.toList.Sublist ents.toList) : Born ents' clk :=
  ⟨h.1.sublist (e.map _), fun x hx => h.2 x (e.subset hx)⟩

theorem rel_some {v : AV} {x : Value} (h : RelA ρ S H w v x) {H' : Heap} {ρ' : Nm} (hr : refs v = []) : RelA ρ' S H' w v x :=
  h.keep (fun _ h => h) (fun _ _ => rfl) (.refl w) (by simp [hr])

theorem RelA.normA {v : AV} {x : Value} (h : RelA ρ S H w v x) : RelA ρ S H w (normA v) x := by
  cases h with
  | d x v h => exact .d _ _ h.norm
  | agg cs vs ys h1 h2 h3 =>
    have hm : ∀ (i : Nat) (y : AV), (cs.map fun | .d x => AV.d (norm x) | v => v)[i]? = some y → ∃ c, cs[i]? = some c ∧ (∀ u, RelA ρ S H w c u → RelA ρ S H w y u) := by
      intro i y hy
      rw [List.getElem?_map] at hy
      obtain ⟨c, hc, rfl⟩ := Option.map_eq_some_iff.1 hy
      refine ⟨c, hc, fun u hu => ?_⟩
      cases hu with
      | d _ _ h => exact .d _ _ h.norm
      | undef => exact .undef _
      | anyb => exact .anyb _
      | ow => exact .ow _ _
      | os _ _ _ _ _ a b => exact .os _ _ _ _ _ a b
      | pv _ _ _ a b => exact .pv _ _ _ a b
      | pa _ _ _ _ _ a b => exact .pa _ _ _ _ _ a b
      | vp _ _ _ _ a b c => exact .vp _ _ _ _ a b c
      | map _ _ a b => exact .map _ _ a b
      | fn _ _ _ _ a b c => exact .fn _ _ _ _ a b c
      | agg _ _ _ a b c => exact .agg _ _ _ a b c
      | tup _ _ _ a b c => exact .tup _ _ _ a b c
    refine .agg _ vs ys (by simpa using h1) (fun i y hy => ?_) (fun i y hy => ?_)
    · obtain ⟨c, hc, _⟩ := hm i y hy; exact h2 i c hc
    · obtain ⟨c, hc, hr⟩ := hm i y hy; exact hr _ (h3 i c hc)
  | undef => exact .undef _
  | anyb => exact .anyb _
  | ow => exact .ow _ _
  | os _ _ _ _ _ a b => exact .os _ _ _ _ _ a b
  | pv _ _ _ a b => exact .pv _ _ _ a b
  | pa _ _ _ _ _ a b => exact .pa _ _ _ _ _ a b
  | vp _ _ _ _ a b c => exact .vp _ _ _ _ a b c
  | map _ _ a b => exact .map _ _ a b
  | fn _ _ _ _ a b c => exact .fn _ _ _ _ a b c
  | tup _ _ _ a b c => exact .tup _ _ _ a b c

theorem lookup_rel {t kt e : TypeId} (ht : P.underlying t = some (.map kt e)) {ag : Bool} {ks : List SK} (hk : keyKind P kt = some (ag, ks)) {z : AV} (hz : zeroOf P e = some z) (hi : Inv ρ S H w)
    {x k : AV} {vx vk : Value} (hx : RelA ρ S H w x vx) (hkr : RelA ρ S H w k vk) {r : Option AV} (h : alookup H ag ks x k = some r) (ok : Bool) :
    ∃ y, (Instr.lookup t vx vk ok).run P w = .ok y w ∧ RelA ρ S H w (if ok then .tup [r.getD (normA z), boolV r.isSome] else r.getD (normA z)) y := by
  have hzr : ∃ zv, (∀ w, (zeroValue e).run P w = .ok zv w) ∧ RelA ρ S H w (normA z) zv := by
    unfold zeroOf at hz
    obtain ⟨zv, h1, h2⟩ := Option.bind_eq_some_iff.1 hz
    obtain ⟨i, h3, h4⟩ := Option.bind_eq_some_iff.1 h1
    exact ⟨zv, run_zero h3 h4, (cv_rel h2).normA⟩
  obtain ⟨zv, hzv, hzr⟩ := hzr
  have fin : ∀ (b : Bool) (v : AV) (y : Value), RelA ρ S H w v y → RelA ρ S H w (if ok then .tup [v, boolV b] else v) (if ok then .tuple #[y, .bool b] else y) := by
    intro b v y hr
    cases ok with
    | false => exact hr
    | true =>
      refine .tup [v, boolV b] #[y, .bool b] (fun i => (#[y, .bool b] : Array Value).getD i undef) rfl (fun i x hi => ?_) (fun i x hi => ?_)
      · match i with
        | 0 => rfl
        | 1 => rfl
        | i + 2 => simp at hi
      · match i with
        | 0 => simp at hi; subst hi; exact hr
        | 1 => simp at hi; subst hi; exact rel_bool _
        | i + 2 => simp at hi
  unfold alookup at h
  split at h
  · rename_i hko
    split at h
    · cases h
      cases hx with
      | d _ _ hd =>
        cases hd
        refine ⟨_, ?_, fin false (normA z) zv hzr⟩
        simp only [Instr.lookup, Sem.run_bind, run_underlying ht, Result.andThen_ok, Sem.run_pure, checkKey_run hk hko hkr]
        have hd : ∃ d, P.underlying kt = some d := by
          cases ag with
          | true => obtain ⟨fs, h, _⟩ := keyKind_struct hk; exact ⟨_, h⟩
          | false =>
            obtain ⟨s, _, hs⟩ := keyKind_scal hk
            unfold skOf at hs
            cases hu : P.underlying kt with
            | none => simp [hu] at hs
            | some d => exact ⟨d, rfl⟩
        obtain ⟨d, hd⟩ := hd
        simp only [Instr.findKey, Sem.run_bind, run_underlying hd, Result.andThen_ok, Instr.findNow, Sem.run_pure, hzv]
    · rename_i l
      split at h
      · rename_i ag' ks' es hes
        split at h
        · rename_i hc
          obtain ⟨rfl, rfl⟩ := hc
          cases hx with
          | map _ _ _ hm =>
            have := hm ⟨_, _, _, hes⟩; subst this
            obtain ⟨ents, clk, hb, he⟩ := entsRel_of hi hes
            obtain ⟨f1, f2, f3⟩ := findKey_run (P := P) hk hko hkr he h
            have hgo : (getObj (ρ l)).run P w = .ok (.map ents clk) w := by simp [getObj, Sem.run, hb]
            cases r with
            | none =>
              have hnone : idxE k es = none := by
                cases hx : idxE k es with
                | none => rfl
                | some j => rw [hx] at f2; simp at f2
              rw [hnone] at f1
              refine ⟨_, ?_, fin false (normA z) zv hzr⟩
              simp only [Instr.lookup, Sem.run_bind, run_underlying ht, Result.andThen_ok, hgo, Sem.run_pure, checkKey_run hk hko hkr, f1, Option.bind_none, hzv]
            | some x =>
              obtain ⟨j, q, g1, g2⟩ := f3 x rfl
              obtain ⟨en, e1, _, _, _, _, e6⟩ := he.2 j q x g2
              rw [g1] at f1
              simp only [Option.bind_some, e1, Option.map_some] at f1
              refine ⟨_, ?_, fin true x en.val e6⟩
              simp only [Instr.lookup, Sem.run_bind, run_underlying ht, Result.andThen_ok, hgo, Sem.run_pure, checkKey_run hk hko hkr, f1]
        · cases h
      · cases h
    · cases h
  · cases h

theorem stays_run (old new : Value) : ∃ w1 key, (Instr.keyThatStays old new).run P w = .ok key w1 ∧ w1.heap = w.heap ∧ Outer w w1 ∧ (key = new ∨ key = old) := by
  unfold Instr.keyThatStays
  by_cases h : Instr.sameBits 10000 old new = true
  · exact ⟨w, new, by rw [if_pos h]; rfl, rfl, ⟨rfl, rfl, rfl, by first | exact Nat.le_refl _ | exact Nat.le_add_right _ _⟩, .inl rfl⟩
  · rw [if_neg h]
    simp only [Sem.run_bind, run_choose, Question.forced]
    refine ⟨w.drew, if (Question.extern "map.whichKeyStays" 2).cut (w.tape w.drawn (.extern "map.whichKeyStays" 2)) = 0 then new else old, rfl, rfl, ⟨rfl, rfl, rfl, by first | exact Nat.le_refl _ | exact Nat.le_add_right _ _⟩, ?_⟩
    split
    · exact .inl rfl
    · exact .inr rfl

theorem setObj_run {b : Nat} {o o' : Obj} (h : w.heap[b]? = some o) (hc : ∀ cs T fr, o ≠ .cells cs T fr) : (setObj b o').run P w = .ok () { w with heap := w.heap.setIfInBounds b o' } := by
  unfold setObj
  simp only [Sem.run, h]

/-- one entry written -/
theorem entsRel_set {ag : Bool} {ks : List SK} {es : List (AV × AV)} {ents : List MapEntry} (h : EntsRel ρ S H w ag ks es ents) {j : Nat} {k v : AV} (hk : keyOK ag ks k = true) (hv1 : refs v = []) (hv2 : solid v = true) {e : MapEntry}
    (hkr : RelA ρ S H w k e.key) (hvr : RelA ρ S H w v e.val) : EntsRel ρ S H w ag ks (es.set j (k, v)) (ents.set j e) := by
  refine ⟨by simpa using h.1, fun i k' v' hi => ?_⟩
  rw [List.getElem?_set] at hi
  by_cases c : j = i
  · subst c
    rw [if_pos rfl] at hi
    split at hi
    · rename_i hl
      cases hi
      exact ⟨e, by rw [List.getElem?_set]; simp [h.1, hl], hk, hv1, hv2, hkr, hvr⟩
    · cases hi
  · rw [if_neg c] at hi
    obtain ⟨e', a⟩ := h.2 i k' v' hi
    exact ⟨e', by rw [List.getElem?_set, if_neg c]; exact a.1, a.2⟩

theorem entsRel_push {ag : Bool} {ks : List SK} {es : List (AV × AV)} {ents : List MapEntry} (h : EntsRel ρ S H w ag ks es ents) {k v : AV} (hk : keyOK ag ks k = true) (hv1 : refs v = []) (hv2 : solid v = true) {e : MapEntry}
    (hkr : RelA ρ S H w k e.key) (hvr : RelA ρ S H w v e.val) : EntsRel ρ S H w ag ks (es ++ [(k, v)]) (ents ++ [e]) := by
  refine ⟨by simp [h.1], fun i k' v' hi => ?_⟩
  by_cases c : i < es.length
  · rw [List.getElem?_append_left c] at hi
    obtain ⟨e', a⟩ := h.2 i k' v' hi
    exact ⟨e', by rw [List.getElem?_append_left (by rw [h.1]; exact c)]; exact a.1, a.2⟩
  · rw [List.getElem?_append_right (by omega)] at hi
    have : i - es.length = 0 := by
      rcases Nat.eq_zero_or_pos (i - es.length) with q | q
      · exact q
      · rw [List.getElem?_eq_none (by simp; omega)] at hi; cases hi
    rw [this] at hi
    simp at hi
    obtain ⟨rfl, rfl⟩ := hi
    exact ⟨e, by rw [List.getElem?_append_right (by rw [h.1]; omega), h.1, this]; rfl, hk, hv1, hv2, hkr, hvr⟩

theorem EntsRel.heap {ag : Bool} {ks : List SK} {es : List (AV × AV)} {ents : List MapEntry} {w' : World} (h : EntsRel ρ S H w ag ks es ents) (hw : w'.heap = w.heap) : EntsRel ρ S H w' ag ks es ents :=
  ⟨h.1, fun i k v hi => by obtain ⟨e, a1, a2, a3, a4, a5, a6⟩ := h.2 i k v hi; exact ⟨e, a1, a2, a3, a4, a5.heap hw, a6.heap hw⟩⟩

theorem Step.heap0 {N : Nat → Prop} {ρ' : Nm} {S' : Nat → Prop} {H' : Heap} {w0 w' : World} (h : Step N ρ S H w0 ρ' S' H' w') (hw : w0.heap = w.heap) (hout : Outer w w0 := by exact ⟨rfl, rfl, rfl, by first | exact Nat.le_refl _ | exact Nat.le_add_right _ _⟩) : Step N ρ S H w ρ' S' H' w' where
  outer := ⟨h.outer.1.trans hout.1, h.outer.2.1.trans hout.2.1, h.outer.2.2.1.trans hout.2.2.1, Nat.le_trans hout.2.2.2 h.outer.2.2.2⟩
  inv := h.inv
  sub := h.sub
  new b hb := by have := h.new b hb; rwa [hw] at this
  frame b hb hf := by have := h.frame b (by rw [hw]; exact hb) hf; rwa [hw] at this
  grow b cs T fr hb := h.grow b cs T fr (by rw [hw]; exact hb)
  size := by have := h.size; rwa [hw] at this
  live l b hl hf := by have := h.live l b hl hf; rwa [hw] at this
  comp := h.comp

theorem mapupd_rel {t kt e : TypeId} (ht : P.underlying t = some (.map kt e)) {ag : Bool} {ks : List SK} (hk : keyKind P kt = some (ag, ks)) (hi : Inv ρ S H w)
    {x k v : AV} {vx vk vv : Value} (hx : RelA ρ S H w x vx) (hkr : RelA ρ S H w k vk) (hvr : RelA ρ S H w v vv) {r : AV} {u : Upd} (h : amapupd H ag ks x k v = some (r, u)) :
    r = .tup [] ∧ ∃ w', (Instr.mapUpdate t vx vk vv).run P w = .ok () w' ∧ ∃ ρ' S', Step No ρ S H w ρ' S' (applyU H u) w' := by
  unfold amapupd at h
  split at h
  · rename_i l
    split at h
    · rename_i ag' ks' es hes
      split at h
      · rename_i hc
        obtain ⟨hko, rfl, rfl⟩ := hc
        split at h
        · rename_i fr xv hf hvw
          split at h
          · rename_i hcond
            cases h
            refine ⟨rfl, ?_⟩
            obtain ⟨hrefs, hsol⟩ := hcond
            have hrefs : refs xv = [] := by simpa using hrefs
            obtain ⟨S1, st1, hS1, _, hk2⟩ := step_frzs (N := No) hi (arrsOf v)
            rw [applyU_append]
            generalize hH1 : applyU H (frz H (arrsOf v)) = H1 at *
            have hes1 : hget H1 l = some (.mp ag' ks' es) := by
              rw [hk2 l _ hes (fun _ _ e => by cases e)]; exact hes
            -- the value, its slices by content
            have hxv : RelA ρ S1 H1 w xv vv := by
              cases v with
              | os l' n off len =>
                simp only [vw] at hvw
                obtain ⟨d, hd, rfl⟩ := Option.map_eq_some_iff.1 hvw
                exact .d _ _ (vwD_rel hi hd hvr st1.sub hS1)
              | agg cs =>
                simp only [vw] at hvw
                obtain ⟨ds, hds, rfl⟩ := Option.map_eq_some_iff.1 hvw
                obtain ⟨vs, rfl, hl, hcell⟩ := agg_cells hvr
                obtain ⟨g1, g2⟩ := vwDs_get hds
                have get : ∀ (i : Nat) (x : AV), (ds.map AV.d)[i]? = some x → ∃ u, vs[i]? = some u ∧ RelA ρ S1 H1 w x u := by
                  intro i x hix
                  obtain ⟨y, hy, rfl⟩ := relA_map_d hix
                  have hil : i < cs.length := by rw [← g1]; exact (List.getElem?_eq_some_iff.1 hy).1
                  obtain ⟨u, hu, hru⟩ := hcell i _ (List.getElem?_eq_getElem hil)
                  obtain ⟨y', hy', hvy⟩ := g2 i _ (List.getElem?_eq_getElem hil)
                  rw [hy] at hy'; cases hy'
                  refine ⟨u, hu, .d _ _ (vwD_rel hi hvy hru st1.sub fun l' hl' => hS1 l' ?_)⟩
                  -- an array that a cell leads to
                  simp only [arrsOf]
                  refine List.mem_flatMap.2 ⟨cs[i], List.getElem_mem hil, ?_⟩
                  generalize cs[i] = c at hl' hvy
                  cases c with
                  | os => simpa [arrsOf] using hl'
                  | agg => simp [vwD] at hvy
                  | _ => simp [arrsOf] at hl'
                refine .agg _ vs (fun i => (vs[i]?).getD undef) (by simp [g1, hl]) (fun i x hix => ?_) (fun i x hix => ?_)
                · obtain ⟨u, hu, _⟩ := get i x hix; rw [hu]; rfl
                · obtain ⟨u, hu, hr⟩ := get i x hix; rw [hu]; exact hr
              | d x =>
                simp only [vw] at hvw; cases hvw
                cases hvr with
                | d _ _ hd => exact .d _ _ (hd.norm.step st1 hi)
              | _ =>
                simp only [vw] at hvw; cases hvw
                exact (RelA.step hvr st1 hi (fun _ _ => id))
            have hkr1 : RelA ρ S1 H1 w k vk := hkr.step st1 hi fun _ _ => id
            cases hx with
            | map _ _ _ hm =>
              have := hm ⟨_, _, _, hes⟩; subst this
              obtain ⟨ents, clk, hb, he⟩ := entsRel_of st1.inv hes1
              obtain ⟨f1, f2, f3⟩ := findKey_run (P := P) hk hko hkr1 he hf
              have hgo : (getObj (ρ l)).run P w = .ok (.map ents clk) w := by simp [getObj, Sem.run, hb]
              rw [setE_idx]
              cases hj : idxE k es with
              | none =>
                rw [hj] at f1
                refine ⟨{ w with heap := w.heap.setIfInBounds (ρ l) (.map (ents.push { key := vk, val := vv, born := clk }) (clk + 1)) }, ?_, upd ρ l (ρ l), S1, ?_⟩
                · simp only [Instr.mapUpdate, Sem.run_bind, run_underlying ht, Result.andThen_ok, hgo, checkKey_run hk hko hkr1, f1, Option.bind_none]
                  rw [setObj_run hb (fun _ _ _ e => by cases e)]
                · exact (st1.trans (map_step st1.inv hes1 hb rfl (by simpa using entsRel_push (e := { key := vk, val := vv, born := clk }) he hko hrefs hsol hkr1 hxv) ((born_of st1.inv hes1 hb).push vk vv))).weaken (fun _ h => h.elim id id)
              | some j =>
                obtain ⟨x0, hx0⟩ := idxE_spec hj
                obtain ⟨en, e1, _, _, _, e5, _⟩ := he.2 j k x0 hx0
                rw [hj] at f1
                simp only [Option.bind_some, e1, Option.map_some] at f1
                have hej : ents[j]? = some en := by simpa using e1
                obtain ⟨w1, key, hrun, hw1, hout1, hkey⟩ := stays_run (P := P) (w := w) en.key vk
                have hkey' : RelA ρ S1 H1 w k key := by rcases hkey with rfl | rfl <;> assumption
                have hb1 : w1.heap[ρ l]? = some (.map ents clk) := by rw [hw1]; exact hb
                refine ⟨{ w1 with heap := w1.heap.setIfInBounds (ρ l) (.map (ents.modify j fun e => { e with key, val := vv }) clk) }, ?_, upd ρ l (ρ l), S1, ?_⟩
                · simp only [Instr.mapUpdate, Sem.run_bind, run_underlying ht, Result.andThen_ok, hgo, checkKey_run hk hko hkr1, f1, hej, Option.map_some, Option.getD_some, hrun]
                  rw [setObj_run hb1 (fun _ _ _ e => by cases e)]
                · have hmod : (ents.modify j fun e => { e with key, val := vv }).toList = ents.toList.set j { en with key, val := vv } := by
                    apply List.ext_getElem?
                    intro i
                    rw [List.getElem?_set, Array.toList_modify, List.getElem?_modify]
                    by_cases c : j = i
                    · subst c
                      have hl : j < ents.toList.length := (List.getElem?_eq_some_iff.1 e1).1
                      simp [e1, hl]; simpa using hl
                    · simp [c]
                  have hborn : Born (ents.modify j fun e => { e with key, val := vv }) clk := (born_of st1.inv hes1 hb).same (by
                    rw [hmod, List.map_set]
                    apply List.ext_getElem?
                    intro i
                    rw [List.getElem?_set]
                    by_cases c : j = i
                    · subst c
                      have hl : j < ents.toList.length := (List.getElem?_eq_some_iff.1 e1).1
                      rw [List.getElem?_map, e1]
                      simp [hl]; simpa using hl
                    · simp [c])
                  refine (st1.trans (Step.heap0 (w0 := w1) (map_step (st1.inv.heap hw1) hes1 hb1 rfl ?_ hborn) hw1 hout1)).weaken (fun _ h => h.elim id id)
                  rw [hmod]
                  exact (entsRel_set (e := { en with key, val := vv }) he hko hrefs hsol hkey' hxv).heap hw1
          · cases h
        · cases h
      · cases h
    · cases h
  · cases h

theorem delete_rel {argTypes : Array TypeId} {ty t kt e : TypeId} (h1 : argTypes[0]? = some t) (ht : P.underlying t = some (.map kt e)) {ag : Bool} {ks : List SK} (hk : keyKind P kt = some (ag, ks)) (hi : Inv ρ S H w)
    {x k : AV} {vx vk : Value} (hx : RelA ρ S H w x vx) (hkr : RelA ρ S H w k vk) {r : AV} {u : Upd} (h : adelete H ag ks x k = some (r, u)) :
    r = .tup [] ∧ ∃ w', (Builtin.delete_ argTypes ty #[vx, vk]).run P w = .ok (.tuple #[]) w' ∧ ∃ ρ' S', Step No ρ S H w ρ' S' (applyU H u) w' := by
  have a0 : (#[vx, vk] : Array Value)[0]? = some vx := rfl
  have a1 : (#[vx, vk] : Array Value)[1]? = some vk := rfl
  unfold adelete at h
  split at h
  · rename_i hko
    split at h
    · rename_i l
      split at h
      · rename_i ag' ks' es hes
        split at h
        · rename_i hc
          obtain ⟨rfl, rfl⟩ := hc
          obtain ⟨fr, hf, e⟩ := Option.map_eq_some_iff.1 h
          cases e
          refine ⟨rfl, ?_⟩
          cases hx with
          | map _ _ _ hm =>
            have := hm ⟨_, _, _, hes⟩; subst this
            obtain ⟨ents, clk, hb, he⟩ := entsRel_of hi hes
            obtain ⟨f1, f2, f3⟩ := findKey_run (P := P) hk hko hkr he hf
            have hgo : (getObj (ρ l)).run P w = .ok (.map ents clk) w := by simp [getObj, Sem.run, hb]
            rw [delE_idx]
            cases hj : idxE k es with
            | none =>
              rw [hj] at f1
              refine ⟨{ w with heap := w.heap.setIfInBounds (ρ l) (.map ents clk) }, ?_, upd ρ l (ρ l), S, map_step hi hes hb rfl he (born_of hi hes hb)⟩
              simp only [Builtin.delete_, h1, a0, a1, Sem.run_bind, run_underlying ht, Result.andThen_ok, hgo, checkKey_run hk hko hkr, f1, Option.bind_none]
              rw [setObj_run hb (fun _ _ _ e => by cases e)]
              rfl
            | some j =>
              obtain ⟨x0, hx0⟩ := idxE_spec hj
              obtain ⟨en, e1, _⟩ := he.2 j k x0 hx0
              rw [hj] at f1
              simp only [Option.bind_some, e1, Option.map_some] at f1
              refine ⟨{ w with heap := w.heap.setIfInBounds (ρ l) (.map (ents.eraseIdxIfInBounds j) clk) }, ?_, upd ρ l (ρ l), S, map_step hi hes hb rfl ?_ ((born_of hi hes hb).sub ?_)⟩
              · simp only [Builtin.delete_, h1, a0, a1, Sem.run_bind, run_underlying ht, Result.andThen_ok, hgo, checkKey_run hk hko hkr, f1]
                rw [setObj_run hb (fun _ _ _ e => by cases e)]
                rfl
              · have herase : (ents.eraseIdxIfInBounds j).toList = ents.toList.eraseIdx j := by
                  have hl : j < ents.size := by simpa using (List.getElem?_eq_some_iff.1 e1).1
                  simp [Array.eraseIdxIfInBounds, hl]
                rw [herase]
                refine ⟨by rw [List.length_eraseIdx, List.length_eraseIdx, he.1], fun i k' v' hik => ?_⟩
                rw [List.getElem?_eraseIdx] at hik
                rw [List.getElem?_eraseIdx]
                split at hik
                · rename_i c; rw [if_pos c]; exact he.2 i k' v' hik
                · rename_i c; rw [if_neg c]; exact he.2 (i + 1) k' v' hik
              · have herase : (ents.eraseIdxIfInBounds j).toList = ents.toList.eraseIdx j := by
                  have hl : j < ents.size := by simpa using (List.getElem?_eq_some_iff.1 e1).1
                  simp [Array.eraseIdxIfInBounds, hl]
                rw [herase]
                exact List.eraseIdx_sublist ..
        · cases h
      · cases h
    · cases h
      refine ⟨rfl, ?_⟩
      cases hx with
      | d _ _ hd =>
        cases hd
        refine ⟨w, ?_, ρ, S, .refl hi⟩
        simp only [Builtin.delete_, h1, a0, a1, Sem.run_bind, run_underlying ht, Result.andThen_ok, checkKey_run hk hko hkr]
        rfl
    · cases h
  · cases h

end
end Bz

/- A call: what is handed over, what comes back. -/
namespace Bz
open Go

section
variable {P : Program} {w : World} {ρ : Nm} {S : Nat → Prop} {H : Heap}

/-- values, one by one -/
def ArgsRel (ρ : Nm) (S : Nat → Prop) (H : Heap) (w : World) (as : List AV) (vs : Array Value) : Prop :=
  as.length = vs.size ∧ ∀ (i : Nat) (x : AV), as[i]? = some x → ∃ y, vs[i]? = some y ∧ RelA ρ S H w x y

/-- a function of the program that has code -/
def Coded (P : Program) (f : Nat) : Prop := ∃ fn, P.funcs[f]? = some fn ∧ fn.body.isSome = true ∧ (fn.name == "runtime.NumGoroutine") = false

/-- function f, called: by its code, or by what stands for it -/
def Enters (P : Program) (f : Nat) (vs : Array Value) (w : World) (R : Ending → World → Prop) : Prop :=
  (Coded P f ∧ Calls P f vs w R) ∨ ∃ y w', (callFunc f vs).run P w = .ok (.value y) w' ∧ R (.returned y) w'

theorem Enters.mono {f : Nat} {vs : Array Value} {R R' : Ending → World → Prop} (h : Enters P f vs w R) (hr : ∀ e w', R e w' → R' e w') : Enters P f vs w R' := by
  rcases h with ⟨h1, h2⟩ | ⟨y, w', h1, h2⟩
  · exact .inl ⟨h1, h2.mono hr⟩
  · exact .inr ⟨y, w', h1, hr _ _ h2⟩

theorem coded_run {f : Nat} (h : Coded P f) (vs : Array Value) : (callFunc f vs).run P w = .ok (.enter f vs) w := by
  obtain ⟨fn, q1, q2, q3⟩ := h
  obtain ⟨b, hb⟩ := Option.isSome_iff_exists.1 q2
  have q3' : ¬ fn.name = "runtime.NumGoroutine" := by simpa using q3
  simp [callFunc, q1, hb, q3']

theorem Enters.calls {f : Nat} {vs : Array Value} {R : Ending → World → Prop} (h : Enters P f vs w R) (hc : Coded P f) : Calls P f vs w R := by
  rcases h with ⟨_, h2⟩ | ⟨y, w', h1, _⟩
  · exact h2
  · rw [coded_run hc vs] at h1; cases h1

/-- function f, called with these values over this memory, returns this, over that memory -/
def Meets (P : Program) (f : Nat) (args : List AV) (H : Heap) (rv : AV) (Ho : Heap) : Prop :=
  ∀ (ρ : Nm) (S : Nat → Prop) (w : World) (vs : Array Value), Inv ρ S H w → ArgsRel ρ S H w args vs →
    Enters P f vs w (fun e w' => ∃ v ρ' S', e = .returned v ∧ Step (fun l => H.length ≤ l) ρ S H w ρ' S' Ho w' ∧ RelA ρ' S' Ho w' rv v)

/-! ### names that were met are met once -/
theorem reach_nodup (H : Heap) : ∀ (k : Nat) (ls seen : List Nat), seen.Nodup → (reach H k ls seen).Nodup
  | 0, _, _, h => h
  | _ + 1, [], _, h => h
  | k + 1, l :: r, seen, h => by
    simp only [reach]
    split
    · exact reach_nodup H k r seen h
    · rename_i hc
      have hn : (seen ++ [l]).Nodup := by
        rw [List.nodup_append]
        refine ⟨h, by simp, fun a ha b hb => ?_⟩
        simp at hb; subst hb
        intro e; subst e
        exact hc (by simpa using ha)
      split
      · exact reach_nodup H k r _ hn
      · exact reach_nodup H k _ _ hn

theorem pack_get {g : Nat → Nat} : ∀ {i : Nat} {L : List Nat} {q : Heap}, pack H g i L = some q → ∀ k, hget q k = if i ≤ k then (L[k - i]?).bind fun l => (hget H l).map (renO g) else none
  | i, [], q, h, k => by simp only [pack] at h; cases h; simp [hget]
  | i, l :: r, q, h, k => by
    simp only [pack] at h
    split at h
    · cases h
    · rename_i o ho
      split at h
      · cases h
      · rename_i q' hq'
        cases h
        simp only [hget, pack_get hq' k]
        by_cases e : k = i
        · subst e; simp [ho]
        · by_cases h2 : i ≤ k
          · rw [if_neg e, if_pos h2, if_pos (by omega)]
            rw [show k - i = (k - (i + 1)) + 1 by omega]
            simp
          · rw [if_neg e, if_neg h2, if_neg (by omega)]

theorem pack_live {g : Nat → Nat} : ∀ {i : Nat} {L : List Nat} {q : Heap}, pack H g i L = some q → q.length = L.length ∧ ∀ l ∈ L, ∃ o, hget H l = some o
  | i, [], q, h => by simp only [pack] at h; cases h; simp
  | i, l :: r, q, h => by
    simp only [pack] at h
    split at h
    · cases h
    · rename_i o ho
      split at h
      · cases h
      · rename_i q' hq'
        cases h
        obtain ⟨h1, h2⟩ := pack_live hq'
        refine ⟨by simp [h1], fun m hm => ?_⟩
        rcases List.mem_cons.1 hm with rfl | hm
        · exact ⟨o, ho⟩
        · exact h2 m hm

/-! ### an object, its names renamed -/
theorem refsL_mem' {cs : List AV} {l : Nat} (h : l ∈ refsL cs) : ∃ (i : Nat) (x : AV), cs[i]? = some x ∧ l ∈ refs x := by
  induction cs with
  | nil => simp [refsL] at h
  | cons a r ih =>
    simp only [refsL, List.mem_append] at h
    rcases h with h | h
    · exact ⟨0, a, rfl, h⟩
    · obtain ⟨i, x, h1, h2⟩ := ih h
      exact ⟨i + 1, x, by simpa using h1, h2⟩

theorem CellR.trans {ρ ρ' : Nm} {S S' : Nat → Prop} {H H' : Heap} {w w' : World} {G G' : Nat → Prop} {v : AV} {x : Value} (g : Nat → Nat) (h : CellR ρ S H w G v x)
    (hS : ∀ b, S b → S' b) (hw : ∀ b, S b → w'.heap[b]? = w.heap[b]?) (hg : Grow w w') (hG : ∀ b, G b → w'.heap[b]? = w.heap[b]?) (hGG : ∀ b, G b → G' b) (hc : ∀ l ∈ refs v, Comp ρ H l ρ' H' (g l)) :
    CellR ρ' S' H' w' G' (ren g v) x := by
  cases v <;> first | exact RelA.trans g h hS hw hg hc | exact RelO.mono h hS hw hG hGG

theorem ObjAt.ren {ρ ρ' : Nm} {S S' : Nat → Prop} {H H' : Heap} {w w' : World} {K : Nat → Prop} {b : Nat} {o : AObj} (g : Nat → Nat) (h : ObjAt ρ S H w K b o)
    (hb : isReal o = true → w'.heap[b]? = w.heap[b]?) (hK : isLive o = true → ∀ c, K c → w'.heap[c]? = w.heap[c]?) (hS : ∀ b, S b → S' b) (hw : ∀ b, S b → w'.heap[b]? = w.heap[b]?) (hg : Grow w w') (hc : ∀ l ∈ refsO o, Comp ρ H l ρ' H' (g l)) :
    ObjAt ρ' S' H' w' K b (renO g o) := by
  cases o with
  | var cs =>
    obtain ⟨vs, T, e, hs, G, hG, h⟩ := h
    refine ⟨vs, T, (hb rfl).trans e, by rw [renL_length]; exact hs, G, by rw [renL_length]; exact hG, fun j x hj => ?_⟩
    rw [renL_get] at hj
    obtain ⟨y, hy, rfl⟩ := Option.map_eq_some_iff.1 hj
    obtain ⟨v, hv, hf, hr⟩ := h j y hy
    have hlt := (List.getElem?_eq_some_iff.1 hy).1
    exact ⟨v, hv, hf, hr.trans g hS hw hg (fun c hc => hK rfl c (hG.1 j c hlt hc)) (fun _ h => h) fun l hl => hc l (refsL_mem hy l hl)⟩
  | oar sz es =>
    refine ⟨h.1, fun c hc' => ?_, fun hne => ?_⟩
    · obtain ⟨c0, hc0, rfl⟩ := List.mem_map.1 hc'
      rw [renL_length]; exact h.2.1 c0 hc0
    have hne0 : es ≠ [] := fun e => hne (by rw [e]; rfl)
    obtain ⟨vs, T, e, hs, G, hG, hcl⟩ := h.2.2 hne0
    refine ⟨vs, T, (hb (by simpa [isReal] using hne0)).trans e, by simpa using hs, G, by simpa using hG, fun i c hi j x hj => ?_⟩
    rw [List.getElem?_map] at hi
    obtain ⟨c0, hc0, rfl⟩ := Option.map_eq_some_iff.1 hi
    rw [renL_get] at hj
    obtain ⟨y, hy, rfl⟩ := Option.map_eq_some_iff.1 hj
    obtain ⟨v, hv, hf, hr⟩ := hcl i c0 hc0 j y hy
    have hlt := row_lt hc0 (h.2.1 c0 (List.mem_of_getElem? hc0)) (List.getElem?_eq_some_iff.1 hy).1
    exact ⟨v, hv, hf, hr.trans g hS hw hg (fun c hc => hK (by simpa [isLive] using hne0) c (hG.1 _ c hlt hc)) (fun _ h => h) fun l hl => hc l (refsLL_mem hc0 hy l hl)⟩
  | arr sz es =>
    refine ⟨h.1, fun hne => ?_⟩
    obtain ⟨vs, T, e, h⟩ := h.2 hne
    exact ⟨vs, T, (hb (by simpa [isReal] using hne)).trans e, h.mono hS hw⟩
  | fz sz es =>
    refine ⟨h.1, fun hne => ?_⟩
    obtain ⟨h1, vs, T, fr, e, h⟩ := h.2 hne
    exact ⟨hS _ h1, vs, T, fr, (hb (by simpa [isReal] using hne)).trans e, h.mono hS hw⟩
  | mp ag ks es =>
    obtain ⟨ents, clk, e, hs, h⟩ := h
    refine ⟨ents, clk, (hb rfl).trans e, hs, fun i k v hi => ?_⟩
    obtain ⟨y, hy, hk, hv, hv', hr, hr'⟩ := h i k v hi
    exact ⟨y, hy, hk, hv, hv', hr.keep hS hw hg (by simp [keyOK_refs hk]), hr'.keep hS hw hg (by simp [hv])⟩

theorem isLive_renO (g : Nat → Nat) (o : AObj) : isLive (renO g o) = isLive o := by cases o <;> simp [renO, isLive]
theorem rowsOf_renO (g : Nat → Nat) (o : AObj) : rowsOf (renO g o) = rowsOf o := by cases o <;> simp [renO, rowsOf]

theorem comp_of {ρ ρ' : Nm} {H H' : Heap} {l l' : Nat} (g : Nat → Nat) (h : hget H' l' = (hget H l).map (renO g)) (hr : ρ' l' = ρ l) : Comp ρ H l ρ' H' l' := by
  refine ⟨fun sz m hm => ⟨m, ?_, Nat.le_refl _, fun _ => hr⟩, fun hv => ⟨?_, hr⟩, fun hv => ⟨?_, hr⟩⟩
  · obtain ⟨o', he, hl⟩ := hm
    rw [h] at he
    obtain ⟨o, ho, rfl⟩ := Option.map_eq_some_iff.1 he
    exact ⟨o, ho, by rwa [rowsOf_renO] at hl⟩
  · obtain ⟨cs, he⟩ := hv
    rw [h] at he
    cases ho : hget H l with
    | none => rw [ho] at he; simp at he
    | some o => rw [ho] at he; cases o <;> simp [renO] at he; exact ⟨_, ho⟩
  · obtain ⟨ag, ks, cs, he⟩ := hv
    rw [h] at he
    cases ho : hget H l with
    | none => rw [ho] at he; simp at he
    | some o => rw [ho] at he; cases o <;> simp [renO] at he; exact ⟨_, _, _, ho⟩

theorem live_of_map {H H' : Heap} {l l' : Nat} (g : Nat → Nat) (h : hget H' l' = (hget H l).map (renO g)) (hl : Live H' l') : Live H l := by
  obtain ⟨o, ho, hlo⟩ := hl
  rw [h] at ho
  obtain ⟨q, hq, rfl⟩ := Option.map_eq_some_iff.1 ho
  exact ⟨q, hq, by rwa [isLive_renO] at hlo⟩

/-! ### memory as a function sees it -/
theorem idx_of {L : List Nat} (hn : L.Nodup) {j l : Nat} (h : L[j]? = some l) : L.idxOf l = j := by
  obtain ⟨hj, rfl⟩ := List.getElem?_eq_some_iff.1 h
  exact hn.idxOf_getElem j hj

theorem idx_get {L : List Nat} {l : Nat} (h : l ∈ L) : L[L.idxOf l]? = some l := by
  rw [List.getElem?_eq_getElem (List.idxOf_lt_length_of_mem h), List.getElem_idxOf]

/-- the part of the memory that is handed over -/
theorem packed {L : List Nat} {q : Heap} (hi : Inv ρ S H w) (hn : L.Nodup) (h : pack H (fun l => L.idxOf l) 0 L = some q) :
    Inv (ρ.via fun j => L.getD j 0) S q w ∧ (∀ l, Comp ρ H l (ρ.via fun j => L.getD j 0) q (L.idxOf l)) ∧ ∀ j, Live q j → ∃ l, L[j]? = some l ∧ Live H l := by
  have get : ∀ k, hget q k = (L[k]?).bind fun l => (hget H l).map (renO fun l => L.idxOf l) := by
    intro k; have := pack_get h k; simpa using this
  have comp : ∀ l, Comp ρ H l (ρ.via fun j => L.getD j 0) q (L.idxOf l) := by
    intro l
    by_cases hl : l ∈ L
    · refine comp_of (fun l => L.idxOf l) (by rw [get, idx_get hl]; rfl) ?_
      show ρ (L.getD (L.idxOf l) 0) = ρ l
      rw [List.getD, idx_get hl]; rfl
    · refine comp_dead ?_
      rw [get, List.getElem?_eq_none (by rw [List.idxOf_eq_length hl]; exact Nat.le_refl _)]; rfl
  have live : ∀ j, Live q j → ∃ l, L[j]? = some l ∧ Live H l := by
    intro j hj
    obtain ⟨o, ho, hlo⟩ := hj
    rw [get] at ho
    obtain ⟨l, hl, ho⟩ := Option.bind_eq_some_iff.1 ho
    obtain ⟨o', ho', rfl⟩ := Option.map_eq_some_iff.1 ho
    exact ⟨l, hl, o', ho', by rwa [isLive_renO] at hlo⟩
  have at_ : ∀ {j l : Nat}, L[j]? = some l → L.getD j 0 = l := fun hl => by rw [List.getD, hl]; rfl
  have foot : ∀ {j l b : Nat}, L[j]? = some l → Ftp (ρ.via fun j => L.getD j 0) j b → Ftp ρ l b := fun {j l b} hl hf => by
    have e := at_ hl
    unfold Ftp at hf ⊢
    simp only [Nm.via, e] at hf; exact hf
  refine ⟨⟨fun j o ho => ?_, fun j j' b hj hj' e e' => ?_, fun j b hj hf => ?_, hi.dom, fun j b hj hf => ?_, fun j hj hf => ?_⟩, comp, live⟩
  · rw [get] at ho
    obtain ⟨l, hl, ho⟩ := Option.bind_eq_some_iff.1 ho
    obtain ⟨o', ho', rfl⟩ := Option.map_eq_some_iff.1 ho
    have : L.getD j 0 = l := at_ hl
    simp only [Nm.via, this]
    exact (hi.obj l o' ho').ren _ (fun _ => rfl) (fun _ _ _ => rfl) (fun _ h => h) (fun _ _ => rfl) (.refl w) fun m _ => comp m
  · obtain ⟨l, hl, hL⟩ := live j hj
    obtain ⟨l', hl', hL'⟩ := live j' hj'
    have := hi.inj l l' b hL hL' (foot hl e) (foot hl' e')
    subst this
    rw [← idx_of hn hl, ← idx_of hn hl']
  · obtain ⟨l, hl, hL⟩ := live j hj
    exact hi.sep l b hL (foot hl hf)
  · obtain ⟨l, hl, hL⟩ := live j hj
    simp only [Nm.via, at_ hl] at hf
    exact hi.hlt l b hL hf
  · obtain ⟨l, hl, hL⟩ := live j hj
    simp only [Nm.via, at_ hl] at hf
    exact hi.hno l hL hf

/-! ### what comes back -/
theorem nodupB_iff : ∀ {l : List Nat}, nodupB l = true → l.Nodup
  | [], _ => List.nodup_nil
  | a :: r, h => by
    simp only [nodupB, Bool.and_eq_true, Bool.not_eq_true'] at h
    exact List.nodup_cons.2 ⟨by simpa using h.1, nodupB_iff h.2⟩

theorem applyU_get : ∀ (u : Upd) (H : Heap) (l : Nat), (u.map (·.1)).Nodup → hget (applyU H u) l = match hget u l with | some o => some o | none => hget H l
  | [], _, _, _ => rfl
  | (k, o) :: r, H, l, hn => by
    simp only [List.map_cons, List.nodup_cons] at hn
    show hget (applyU (hset H k o) r) l = _
    rw [applyU_get r _ l hn.2]
    simp only [hget]
    by_cases e : l = k
    · subst e
      have : hget r l = none := by
        cases hr : hget r l with
        | none => rfl
        | some q => exact absurd (List.mem_map.2 ⟨(l, q), hget_mem hr, rfl⟩) hn.1
      simp [this, hget_set_self]
    · rw [if_neg e, hget_set_ne H _ e]

theorem hget_map {f : Nat → Nat} {g : Nat → Nat} : ∀ (q : Heap) (l j : Nat), (∀ x ∈ q, f x.1 = l ↔ x.1 = j) → hget (q.map fun x => (f x.1, renO g x.2)) l = (hget q j).map (renO g)
  | [], _, _, _ => rfl
  | (k, o) :: r, l, j, h => by
    have h0 := h (k, o) (by simp)
    simp only at h0
    simp only [List.map_cons, hget]
    by_cases e : j = k
    · rw [if_pos (h0.2 e.symm).symm, if_pos e]; rfl
    · rw [if_neg (fun q => e (h0.1 q.symm).symm), if_neg e]
      exact hget_map r l j fun x hx => h x (by simp [hx])

theorem hget_map_none {f : Nat → Nat} {g : Nat → Nat} : ∀ (q : Heap) (l : Nat), (∀ x ∈ q, f x.1 ≠ l) → hget (q.map fun x => (f x.1, renO g x.2)) l = none
  | [], _, _ => rfl
  | (k, o) :: r, l, h => by
    simp only [List.map_cons, hget]
    rw [if_neg (fun e => h (k, o) (by simp) e.symm)]
    exact hget_map_none r l fun x hx => h x (by simp [hx])

theorem hget_dom {q : Heap} {j : Nat} (h : (hget q j).isSome = true) : ∃ o, hget q j = some o ∧ (j, o) ∈ q := by
  obtain ⟨o, ho⟩ := Option.isSome_iff_exists.1 h
  exact ⟨o, ho, hget_mem ho⟩

theorem hget_of_mem : ∀ {q : Heap} {x : Nat × AObj}, x ∈ q → (hget q x.1).isSome = true
  | (k, o) :: r, x, h => by
    simp only [hget]
    split
    · rfl
    · rename_i hne
      rcases List.mem_cons.1 h with rfl | h
      · exact absurd rfl hne
      · exact hget_of_mem h

theorem nodup_map_on {f : Nat → Nat} : ∀ {l : List Nat}, l.Nodup → (∀ a ∈ l, ∀ b ∈ l, f a = f b → a = b) → (l.map f).Nodup
  | [], _, _ => List.nodup_nil
  | a :: r, h, hf => by
    obtain ⟨h1, h2⟩ := List.nodup_cons.1 h
    simp only [List.map_cons]
    refine List.nodup_cons.2 ⟨fun hm => ?_, nodup_map_on h2 fun x hx y hy => hf x (by simp [hx]) y (by simp [hy])⟩
    obtain ⟨b, hb, e⟩ := List.mem_map.1 hm
    exact h1 (hf b (by simp [hb]) a (by simp) e ▸ hb)

section back
variable {L : List Nat} {nm : Nat}

def backF (L : List Nat) (nm : Nat) : Nat → Nat := fun j => if j < L.length then L.getD j 0 else nm + (j - L.length)

def fwdF (L : List Nat) (nm : Nat) (l : Nat) : Option Nat := if l ∈ L then some (L.idxOf l) else if nm ≤ l ∧ l < nm + 10 then some (L.length + (l - nm)) else none

theorem back_fwd {l j : Nat} (hL : ∀ l ∈ L, l < nm ∨ nm + 10 ≤ l) (h : fwdF L nm l = some j) : backF L nm j = l ∧ j < L.length + 10 := by
  unfold fwdF at h
  split at h
  · rename_i hl
    cases h
    have hlt := List.idxOf_lt_length_of_mem hl
    refine ⟨?_, by omega⟩
    unfold backF
    rw [if_pos hlt, List.getD, idx_get hl]; rfl
  · split at h
    · rename_i hc
      cases h
      refine ⟨?_, by omega⟩
      unfold backF
      rw [if_neg (by omega)]; omega
    · cases h

theorem back_iff {l j k : Nat} (hn : L.Nodup) (hL : ∀ l ∈ L, l < nm ∨ nm + 10 ≤ l) (h : fwdF L nm l = some j) (hk : k < L.length + 10) : backF L nm k = l ↔ k = j := by
  obtain ⟨hb, hj⟩ := back_fwd hL h
  constructor
  · intro e
    rw [← hb] at e
    unfold backF at e
    split at e <;> split at e
    · rename_i h1 h2
      have a1 : L[k]? = some (L.getD k 0) := by rw [List.getD, List.getElem?_eq_getElem h1]; rfl
      have a2 : L[j]? = some (L.getD j 0) := by rw [List.getD, List.getElem?_eq_getElem h2]; rfl
      rw [← e] at a2
      rw [← idx_of hn a1, ← idx_of hn a2]
    · rename_i h1 h2
      have : L.getD k 0 ∈ L := by rw [List.getD, List.getElem?_eq_getElem h1]; exact List.getElem_mem h1
      have := hL _ this
      omega
    · rename_i h1 h2
      have : L.getD j 0 ∈ L := by rw [List.getD, List.getElem?_eq_getElem h2]; exact List.getElem_mem h2
      have := hL _ this
      omega
    · omega
  · intro e; rw [e]; exact hb

theorem back_no {l k : Nat} (h : fwdF L nm l = none) (hk : k < L.length + 10) : backF L nm k ≠ l := by
  unfold fwdF at h
  split at h
  · cases h
  · rename_i hl
    split at h
    · cases h
    · rename_i hc
      unfold backF
      split
      · rename_i h1
        intro e
        apply hl
        rw [← e, List.getD, List.getElem?_eq_getElem h1]; exact List.getElem_mem h1
      · intro e; omega
end back

theorem unpacked {L : List Nat} {nm : Nat} {q Ho : Heap} {ρ' : Nm} {S' : Nat → Prop} {w' : World} {rv : AV} {v : Value} (hi : Inv ρ S H w) (hn : L.Nodup) (hq : pack H (fun l => L.idxOf l) 0 L = some q)
    (hL : ∀ l ∈ L, l < nm ∨ nm + 10 ≤ l) (hok : backOK L.length rv Ho = true)
    (hnew : ∀ x ∈ Ho, L.length ≤ x.1 → ∀ m p, hget H m = some p → m ≠ backF L nm x.1 → backF L nm x.1 ∉ refsO p)
    (st : Step (fun l => q.length ≤ l) (ρ.via fun j => L.getD j 0) S q w ρ' S' Ho w') (hr : RelA ρ' S' Ho w' rv v) :
    ∃ ρ2, Step (fun l => l ∈ (Ho.filter fun x => decide (L.length ≤ x.1)).map fun x => backF L nm x.1) ρ S H w ρ2 S' (applyU H (Ho.map fun x => (backF L nm x.1, renO (backF L nm) x.2))) w' ∧
      RelA ρ2 S' (applyU H (Ho.map fun x => (backF L nm x.1, renO (backF L nm) x.2))) w' (ren (backF L nm) rv) v := by
  simp only [backOK, Bool.and_eq_true, List.all_eq_true, decide_eq_true_eq] at hok
  obtain ⟨⟨⟨hkn, hkeys⟩, hrv⟩, hargs⟩ := hok
  have hkn := nodupB_iff hkn
  obtain ⟨hip, hcp, hlp⟩ := packed hi hn hq
  have hql : q.length = L.length := (pack_live hq).1
  generalize hH' : applyU H (Ho.map fun x => (backF L nm x.1, renO (backF L nm) x.2)) = H'
  -- what stands where, behind the call
  have hkey : ∀ {j : Nat} {o : AObj}, hget Ho j = some o → j < L.length + 10 ∧ ∀ k ∈ refsO o, (hget Ho k).isSome = true := by
    intro j o ho
    have := hkeys (j, o) (hget_mem ho)
    exact this
  have hfwd : ∀ {j : Nat}, j < L.length + 10 → fwdF L nm (backF L nm j) = some j := by
    intro j hj
    unfold fwdF backF
    by_cases h1 : j < L.length
    · have : L[j]? = some (L.getD j 0) := by rw [List.getD, List.getElem?_eq_getElem h1]; rfl
      rw [if_pos h1, if_pos (List.mem_of_getElem? this), idx_of hn this]
    · rw [if_neg h1]
      have hno : ¬ (nm + (j - L.length)) ∈ L := fun hm => by have := hL _ hm; omega
      rw [if_neg hno, if_pos (by omega)]
      congr 1; omega
  have hkn' : ((Ho.map fun x => (backF L nm x.1, renO (backF L nm) x.2)).map (·.1)).Nodup := by
    rw [List.map_map]
    show (Ho.map fun x => backF L nm x.1).Nodup
    rw [show (Ho.map fun x => backF L nm x.1) = (Ho.map (·.1)).map (backF L nm) by rw [List.map_map]; rfl]
    refine nodup_map_on hkn fun a ha b hb e => ?_
    obtain ⟨x, hx, rfl⟩ := List.mem_map.1 ha
    obtain ⟨y, hy, rfl⟩ := List.mem_map.1 hb
    have h1 := hfwd (hkeys x hx).1
    have h2 := hfwd (hkeys y hy).1
    rw [e, h2] at h1
    exact (Option.some.inj h1).symm
  have get : ∀ l, hget H' l = match fwdF L nm l with
      | some j => (match hget Ho j with | some o => some (renO (backF L nm) o) | none => hget H l)
      | none => hget H l := by
    intro l
    rw [← hH', applyU_get _ _ _ hkn']
    cases hf : fwdF L nm l with
    | none =>
      rw [hget_map_none Ho l fun x hx => back_no hf (hkeys x hx).1]
    | some j =>
      rw [hget_map Ho l j fun x hx => back_iff hn hL hf (hkeys x hx).1]
      simp only
      cases hget Ho j <;> rfl
  let ρ2 : Nm := ⟨fun l => match fwdF L nm l with
    | some j => if (hget Ho j).isSome then ρ' j else ρ l
    | none => ρ l, fun l => match fwdF L nm l with
    | some j => if (hget Ho j).isSome then ρ'.hid j else ρ.hid l
    | none => ρ.hid l⟩
  have hρ2 : ∀ l, ρ2 l = match fwdF L nm l with
    | some j => if (hget Ho j).isSome then ρ' j else ρ l
    | none => ρ l := fun _ => rfl
  have hη2 : ∀ l, ρ2.hid l = match fwdF L nm l with
    | some j => if (hget Ho j).isSome then ρ'.hid j else ρ.hid l
    | none => ρ.hid l := fun _ => rfl
  have hback : ∀ {j : Nat}, (hget Ho j).isSome = true → hget H' (backF L nm j) = (hget Ho j).map (renO (backF L nm)) ∧ ρ2 (backF L nm j) = ρ' j ∧ ρ2.hid (backF L nm j) = ρ'.hid j := by
    intro j hj
    obtain ⟨o, ho⟩ := Option.isSome_iff_exists.1 hj
    have hf := hfwd (hkey ho).1
    refine ⟨by rw [get, hf]; simp [ho], ?_, ?_⟩
    · rw [hρ2, hf]; simp [hj]
    · rw [hη2, hf]; simp [hj]
  have hcb : ∀ {j : Nat}, (hget Ho j).isSome = true → Comp ρ' Ho j ρ2 H' (backF L nm j) := fun hj => comp_of _ (hback hj).1 (hback hj).2.1
  -- two kinds of names
  have kinds : ∀ l, (∃ j, fwdF L nm l = some j ∧ (hget Ho j).isSome = true ∧ backF L nm j = l) ∨ (l ∉ L ∧ hget H' l = hget H l ∧ (ρ2 l = ρ l ∧ ρ2.hid l = ρ.hid l) ∧ ∀ x ∈ Ho, backF L nm x.1 ≠ l) := by
    intro l
    cases hf : fwdF L nm l with
    | none =>
      refine .inr ⟨fun hl => ?_, by rw [get, hf], ⟨by rw [hρ2, hf], by rw [hη2, hf]⟩, fun x hx => back_no hf (hkeys x hx).1⟩
      unfold fwdF at hf; rw [if_pos hl] at hf; cases hf
    | some j =>
      cases ho : hget Ho j with
      | some o => exact .inl ⟨j, rfl, by rw [ho]; rfl, (back_fwd hL hf).1⟩
      | none =>
        refine .inr ⟨fun hl => ?_, by rw [get, hf]; simp [ho], ⟨by rw [hρ2, hf]; simp [ho], by rw [hη2, hf]; simp [ho]⟩, fun x hx e => ?_⟩
        · unfold fwdF at hf; rw [if_pos hl] at hf; cases hf
          have := hargs (L.idxOf l) (List.mem_range.2 (List.idxOf_lt_length_of_mem hl))
          rw [ho] at this; cases this
        · have := (back_iff hn hL hf (hkeys x hx).1).1 e
          have h2 := hget_of_mem hx
          rw [this, ho] at h2; cases h2
  have hcomp : ∀ l, ¬ l ∈ ((Ho.filter fun x => decide (L.length ≤ x.1)).map fun x => backF L nm x.1) → Comp ρ H l ρ2 H' l := by
    intro l hnl
    rcases kinds l with ⟨j, hf, hj, hb⟩ | ⟨_, h1, h2, _⟩
    · obtain ⟨o, ho, hmem⟩ := hget_dom hj
      by_cases hjl : j < L.length
      · have hl : l ∈ L := by
          rw [← hb]; unfold backF; rw [if_pos hjl, List.getD, List.getElem?_eq_getElem hjl]; exact List.getElem_mem hjl
        have hidx : L.idxOf l = j := by
          unfold fwdF at hf; rw [if_pos hl] at hf; exact Option.some.inj hf
        have c1 := hcp l
        rw [hidx] at c1
        have c2 := st.comp j (by rw [hql]; omega)
        have c3 := hcb hj
        rw [hb] at c3
        exact (c1.trans c2).trans c3
      · refine absurd (List.mem_map.2 ⟨(j, o), List.mem_filter.2 ⟨hmem, by simp; omega⟩, hb⟩) hnl
    · exact comp_same h1 h2.1
  have hlive : ∀ l, Live H' l → (∃ j, backF L nm j = l ∧ Live Ho j ∧ ∀ b, Ftp ρ2 l b ↔ Ftp ρ' j b) ∨ (l ∉ L ∧ Live H l ∧ ∀ b, Ftp ρ2 l b ↔ Ftp ρ l b) := by
    intro l hl
    rcases kinds l with ⟨j, hf, hj, hb⟩ | ⟨h0, h1, h2, _⟩
    · refine .inl ⟨j, hb, ?_, fun b => by rw [← hb]; unfold Ftp; rw [(hback hj).2.1, (hback hj).2.2]⟩
      have := (hback hj).1
      rw [hb] at this
      exact live_of_map _ this hl
    · refine .inr ⟨h0, ?_, fun b => by unfold Ftp; rw [h2.1, h2.2]⟩
      obtain ⟨o, ho, hlo⟩ := hl
      exact ⟨o, by rw [← h1]; exact ho, hlo⟩
  have up : ∀ j b, Live q j → Ftp (ρ.via fun j => L.getD j 0) j b → ∃ l, l ∈ L ∧ Live H l ∧ Ftp ρ l b := by
    intro j b hj hf
    obtain ⟨l', h1, h2⟩ := hlp j hj
    have : L.getD j 0 = l' := by rw [List.getD, h1]; rfl
    refine ⟨l', List.mem_of_getElem? h1, h2, ?_⟩
    unfold Ftp at hf ⊢; simp only [Nm.via, this] at hf; exact hf
  -- a live object that wasn't handed over is nobody's
  have apart : ∀ l b, l ∉ L → Live H l → Ftp ρ l b → ∀ j, Live q j → ¬ Ftp (ρ.via fun j => L.getD j 0) j b := by
    intro l b hl hlv hf j hj e
    obtain ⟨l', h0, h1, h2⟩ := up j b hj e
    have := hi.inj l' l b h1 hlv h2 hf
    exact hl (this ▸ h0)
  have cross : ∀ j l b, Live Ho j → l ∉ L → Live H l → Ftp ρ' j b → ¬ Ftp ρ l b := by
    intro j l b hj hl hlv hf e
    rcases st.live j b hj hf with h | ⟨l0, h0, e0⟩
    · have := hi.foot_lt hlv e; omega
    · exact apart l b hl hlv e l0 h0 e0
  refine ⟨ρ2, ⟨⟨fun l o ho => ?_, fun l l' b hl hl' e e' => ?_, fun l b hl hf => ?_, st.inv.dom, fun l b hl hf => ?_, fun l hl hf => ?_⟩, st.sub, fun b hb => ?_, fun b hb hf => ?_, st.grow, st.size, fun l b hl hf => ?_, hcomp, st.outer⟩, ?_⟩
  · rcases kinds l with ⟨j, hf, hj, hb⟩ | ⟨h0, h1, h2, h3⟩
    · obtain ⟨o', ho'⟩ := Option.isSome_iff_exists.1 hj
      have := (hback hj).1
      rw [hb, ho, ho'] at this
      cases this
      rw [← hb, (hback hj).2.1, (hback hj).2.2]
      exact (st.inv.obj j o' ho').ren _ (fun _ => rfl) (fun _ _ _ => rfl) (fun _ h => h) (fun _ _ => rfl) (.refl w') fun k hk => hcb ((hkey ho').2 k hk)
    · rw [h1] at ho
      rw [h2.1, h2.2]
      have hobj := hi.obj l o ho
      refine hobj.keep (fun hre => ?_) (fun hlo c hc => st.frame _ (hi.hlt l c ⟨o, ho, hlo⟩ hc) fun j hj e => apart l c h0 ⟨o, ho, hlo⟩ (.inr hc) j hj e) st.sub (st.same hip) st.grow fun k hk => hcomp k fun hm => ?_
      · cases hlo : isLive o with
        | true => exact st.frame _ (hobj.lt hre) fun j hj e => apart l _ h0 ⟨o, ho, hlo⟩ (.inl rfl) j hj e
        | false =>
          cases o with
          | fz sz es => exact st.same hip _ (hobj.2 (by simpa [isReal] using hre)).1
          | arr sz es => simp [isLive, isReal] at hlo hre; exact absurd hlo hre
          | oar sz es => simp [isLive, isReal] at hlo hre; exact absurd hlo hre
          | _ => simp [isLive] at hlo
      · obtain ⟨x, hx, e⟩ := List.mem_map.1 hm
        obtain ⟨hx1, hx2⟩ := List.mem_filter.1 hx
        subst e
        exact hnew x hx1 (by simpa using hx2) l o ho (fun e => h3 x hx1 e.symm) hk
  · rcases hlive l hl with ⟨j, hb, hj, er⟩ | ⟨h0, h1, er⟩ <;> rcases hlive l' hl' with ⟨j', hb', hj', er'⟩ | ⟨h0', h1', er'⟩
    · rw [er] at e; rw [er'] at e'
      rw [← hb, ← hb', st.inv.inj j j' b hj hj' e e']
    · rw [er] at e; rw [er'] at e'
      exact absurd e' (cross j l' b hj h0' h1' e)
    · rw [er] at e; rw [er'] at e'
      exact absurd e (cross j' l b hj' h0 h1 e')
    · rw [er] at e; rw [er'] at e'
      exact hi.inj l l' b h1 h1' e e'
  · rcases hlive l hl with ⟨j, hb, hj, er⟩ | ⟨h0, h1, er⟩
    · rw [er] at hf; exact st.inv.sep j b hj hf
    · rw [er] at hf
      intro hs
      rcases st.new _ hs with h | h | ⟨l0, hl0, e0⟩
      · exact hi.sep l b h1 hf h
      · have := hi.foot_lt h1 hf; omega
      · exact apart l b h0 h1 hf l0 hl0 e0
  · rcases hlive l hl with ⟨j, hb, hj, er⟩ | ⟨h0, h1, er⟩
    · exact st.inv.foot_lt hj ((er b).1 (.inr hf))
    · exact Nat.lt_of_lt_of_le (hi.foot_lt h1 ((er b).1 (.inr hf))) st.size
  · rcases kinds l with ⟨j, hfw, hj, hb⟩ | ⟨h0, h1, h2, _⟩
    · rw [← hb, (hback hj).2.1, (hback hj).2.2] at hf
      refine st.inv.hno j ?_ hf
      have := (hback hj).1
      rw [hb] at this
      exact live_of_map _ this hl
    · rw [h2.1, h2.2] at hf
      refine hi.hno l ?_ hf
      obtain ⟨o, ho, hlo⟩ := hl
      exact ⟨o, by rw [← h1]; exact ho, hlo⟩
  · rcases st.new b hb with h | h | ⟨l0, hl0, e0⟩
    · exact .inl h
    · exact .inr (.inl h)
    · obtain ⟨l, _, h1, h2⟩ := up l0 b hl0 e0
      exact .inr (.inr ⟨l, h1, h2⟩)
  · refine st.frame b hb fun j hj e => ?_
    obtain ⟨l, _, h1, h2⟩ := up j b hj e
    exact hf l h1 h2
  · rcases hlive l hl with ⟨j, hb, hj, er⟩ | ⟨h0, h1, er⟩
    · rw [er] at hf
      rcases st.live j b hj hf with h | ⟨l0, hl0, e0⟩
      · exact .inl h
      · obtain ⟨l', _, h1, h2⟩ := up l0 b hl0 e0
        exact .inr ⟨l', h1, h2⟩
    · rw [er] at hf; exact .inr ⟨l, h1, hf⟩
  · exact hr.trans _ (fun _ h => h) (fun _ _ => rfl) (.refl w') fun k hk => hcb (hrv k hk)

end
end Bz

/- A call, whole. -/
namespace Bz
open Go

section
variable {P : Program} {w : World} {ρ : Nm} {S : Nat → Prop} {H : Heap}

/-- a value, its slices by content -/
theorem vw_rel {N : Nat → Prop} (hi : Inv ρ S H w) {v xv : AV} {vv : Value} (hvr : RelA ρ S H w v vv) (hvw : vw H v = some xv) {S1 : Nat → Prop} {H1 : Heap} (st1 : Step N ρ S H w ρ S1 H1 w)
    (hN : ∀ l, ¬ N l) (hS1 : ∀ l ∈ arrsOf v, (∃ sz m, m ≠ 0 ∧ CntD H l sz m) → S1 (ρ l)) : RelA ρ S1 H1 w xv vv := by
  cases v with
  | os l' n off len =>
    simp only [vw] at hvw
    obtain ⟨d, hd, rfl⟩ := Option.map_eq_some_iff.1 hvw
    exact .d _ _ (vwD_rel hi hd hvr st1.sub hS1)
  | agg cs =>
    simp only [vw] at hvw
    obtain ⟨ds, hds, rfl⟩ := Option.map_eq_some_iff.1 hvw
    obtain ⟨vs, rfl, hl, hcell⟩ := agg_cells hvr
    obtain ⟨g1, g2⟩ := vwDs_get hds
    have get : ∀ (i : Nat) (x : AV), (ds.map AV.d)[i]? = some x → ∃ u, vs[i]? = some u ∧ RelA ρ S1 H1 w x u := by
      intro i x hix
      obtain ⟨y, hy, rfl⟩ := relA_map_d hix
      have hil : i < cs.length := by rw [← g1]; exact (List.getElem?_eq_some_iff.1 hy).1
      obtain ⟨u, hu, hru⟩ := hcell i _ (List.getElem?_eq_getElem hil)
      obtain ⟨y', hy', hvy⟩ := g2 i _ (List.getElem?_eq_getElem hil)
      rw [hy] at hy'; cases hy'
      refine ⟨u, hu, .d _ _ (vwD_rel hi hvy hru st1.sub fun l' hl' => hS1 l' ?_)⟩
      simp only [arrsOf]
      refine List.mem_flatMap.2 ⟨cs[i], List.getElem_mem hil, ?_⟩
      generalize cs[i] = c at hl' hvy
      cases c with
      | os => simpa [arrsOf] using hl'
      | agg => simp [vwD] at hvy
      | _ => simp [arrsOf] at hl'
    refine .agg _ vs (fun i => (vs[i]?).getD undef) (by simp [g1, hl]) (fun i x hix => ?_) (fun i x hix => ?_)
    · obtain ⟨u, hu, _⟩ := get i x hix; rw [hu]; rfl
    · obtain ⟨u, hu, hr⟩ := get i x hix; rw [hu]; exact hr
  | d x =>
    simp only [vw] at hvw; cases hvw
    cases hvr with
    | d _ _ hd => exact .d _ _ (hd.norm.step st1 hi)
  | _ =>
    simp only [vw] at hvw; cases hvw
    exact (RelA.step hvr st1 hi (fun l _ => hN l))

theorem vws_get : ∀ {xs as : List AV}, vws H xs = some as → as.length = xs.length ∧ ∀ (i : Nat) (y : AV), as[i]? = some y → ∃ x, xs[i]? = some x ∧ vw H x = some y
  | [], as, h => by simp only [vws] at h; cases h; simp
  | v :: r, as, h => by
    simp only [vws] at h
    split at h
    · cases h
    · rename_i x hx
      split at h
      · cases h
      · rename_i xs hxs
        cases h
        obtain ⟨h1, h2⟩ := vws_get hxs
        refine ⟨by simp [h1], fun i y hy => ?_⟩
        cases i with
        | zero => simp at hy; subst hy; exact ⟨v, rfl, hx⟩
        | succ i => simp at hy; obtain ⟨z, hz, hv⟩ := h2 i y hy; exact ⟨z, by simpa using hz, hv⟩

/-! ### a result without slices -/
def plainD : D → Bool
  | .int .. | .bool .. | .str .. | .nili | .nilp | .nilm | .nilf | .ifc _ (.int ..) | .vs _ [] => true
  | _ => false

theorem RelD.plain {S S' : Nat → Prop} {w w' : World} {x : D} {v : Value} (h : RelD S w x v) (hx : plainD x = true) : RelD S' w' x v := by
  cases h with
  | int => exact .int _ _
  | bool => exact .bool _
  | str => exact .str _
  | nilp => exact .nilp
  | nilm => exact .nilm
  | nilf => exact .nilf
  | nili => exact .nili
  | ifc t x v h =>
    cases h <;> simp [plainD] at hx
    exact .ifc _ _ _ (.int _ _)
  | vnil t b => exact .vnil t b
  | vs a sz cap es xs h1 h2 h3 h4 h5 =>
    cases es with
    | cons a r => simp [plainD] at hx
    | nil => exact .vs a sz cap [] xs h1 h2 (fun h => absurd rfl h) (fun i j c hi => by simp at hi) (fun i j c x hi => by simp at hi)

theorem noViews_agg {cs : List AV} (h : noViews (.agg cs) = true) : ∀ (i : Nat) (x : AV), cs[i]? = some x → ∃ d, x = .d d ∧ plainD d = true := by
  intro i x hx
  have := List.all_eq_true.1 (by simpa only [noViews] using h) x (List.mem_of_getElem? hx)
  cases x with
  | d d =>
    refine ⟨d, rfl, ?_⟩
    revert this
    cases d with
    | ifc t v => cases v <;> simp [plainD]
    | vs nl es => cases es <;> simp [plainD]
    | _ => simp [plainD]
  | _ => simp at this

theorem noViews_tup {cs : List AV} (h : noViews (.tup cs) = true) : ∀ (i : Nat) (x : AV), cs[i]? = some x → ∃ d, x = .d d ∧ plainD d = true :=
  noViews_agg (cs := cs) h

theorem noViews_rel {rv : AV} (hn : noViews rv = true) {ρ' : Nm} {S' : Nat → Prop} {H' : Heap} {w' : World} {v : Value} (h : RelA ρ' S' H' w' rv v) : RelA ρ S H w' rv v := by
  cases h with
  | d x v h =>
    refine .d _ _ (h.plain ?_)
    revert hn
    cases x with
    | ifc t v => cases v <;> simp [noViews, plainD]
    | vs nl es => cases es <;> simp [noViews, plainD]
    | _ => simp [noViews, plainD]
  | agg cs vs ys h1 h2 h3 =>
    have hc := noViews_agg hn
    refine .agg cs vs ys h1 h2 fun i x hx => ?_
    obtain ⟨d, rfl, hd⟩ := hc i x hx
    cases h3 i _ hx with
    | d _ _ h => exact .d _ _ (h.plain hd)
  | tup cs vs ys h1 h2 h3 =>
    have hc := noViews_tup hn
    refine .tup cs vs ys h1 h2 fun i x hx => ?_
    obtain ⟨d, rfl, hd⟩ := hc i x hx
    cases h3 i _ hx with
    | d _ _ h => exact .d _ _ (h.plain hd)
  | _ => simp [noViews] at hn

theorem ArgsRel.ren {as : List AV} {vs : Array Value} (h : ArgsRel ρ S H w as vs) {ρ' : Nm} {H' : Heap} (g : Nat → Nat) (hc : ∀ l, Comp ρ H l ρ' H' (g l)) :
    ArgsRel ρ' S H' w (renL g as) vs := by
  refine ⟨by rw [renL_length]; exact h.1, fun i x hx => ?_⟩
  rw [renL_get] at hx
  obtain ⟨y, hy, rfl⟩ := Option.map_eq_some_iff.1 hx
  obtain ⟨z, hz, hr⟩ := h.2 i y hy
  exact ⟨z, hz, hr.trans g (fun _ h => h) (fun _ _ => rfl) (.refl w) fun l _ => hc l⟩

theorem applyU_app (H : Heap) (u v : Upd) : applyU H (u ++ v) = applyU (applyU H u) v := by simp [applyU, List.foldl_append]

/-- what is known of callees -/
def Good (P : Program) (C : Callee) : Prop := ∀ f args H rv Ho, C f args H = some (rv, Ho) → Meets P f args H rv Ho

theorem acall_sound {X : Ctx} (hC : Good P X.C) (hi : Inv ρ S H w) {f : Nat} {args : List AV} {vs : Array Value} (ha : ArgsRel ρ S H w args vs) {nm : Nat} {v : AV} {u : Upd} {nw : List Nat}
    (h : acall X nm H f args = some (v, u, nw)) (hno : ∀ l ∈ nw, ∀ m p, hget H m = some p → m ≠ l → l ∉ refsO p) :
    Enters P f vs w (fun e w' => ∃ y, e = .returned y ∧ ∃ ρ' S', Step (fun l => l ∈ nw) ρ S H w ρ' S' (applyU H u) w' ∧ RelA ρ' S' (applyU H u) w' v y) := by
  unfold acall at h
  split at h
  · cases h
  · rename_i as has
    simp only at h
    -- what is lent
    have lent : ∃ S1, Step No ρ S H w ρ S1 (applyU H (if X.own f then [] else frz H (args.flatMap arrsOf))) w ∧ ArgsRel ρ S1 (applyU H (if X.own f then [] else frz H (args.flatMap arrsOf))) w as vs ∧
        ∀ l ∈ nw, ∀ m p, hget (applyU H (if X.own f then [] else frz H (args.flatMap arrsOf))) m = some p → m ≠ l → l ∉ refsO p := by
      cases ho : X.own f with
      | true =>
        rw [ho] at has
        simp only [if_true] at has ⊢
        cases has
        exact ⟨S, .refl hi, ha, hno⟩
      | false =>
        rw [ho] at has
        simp only [Bool.false_eq_true, if_false] at has ⊢
        obtain ⟨S1, st1, hS1, _, _⟩ := step_frzs (N := No) hi (args.flatMap arrsOf)
        obtain ⟨g1, g2⟩ := vws_get has
        refine ⟨S1, st1, ⟨g1.trans ha.1, fun i y hy => ?_⟩, fun l hl => frz_no (hno l hl)⟩
        obtain ⟨x, hx, hv⟩ := g2 i y hy
        obtain ⟨z, hz, hr⟩ := ha.2 i x hx
        exact ⟨z, hz, vw_rel hi hr hv st1 (fun _ => id) fun l hl => hS1 l (List.mem_flatMap.2 ⟨x, List.mem_of_getElem? hx, hl⟩)⟩
    obtain ⟨S1, st1, ha1, hno1⟩ := lent
    generalize hH1 : applyU H (if X.own f then [] else frz H (args.flatMap arrsOf)) = H1 at *
    generalize hL : reach H1 RF (refsL as) [] = L at *
    have hLn : L.Nodup := by rw [← hL]; exact reach_nodup H1 _ _ _ List.nodup_nil
    split at h
    · cases h
    · rename_i q hq
      split at h
      · cases h
      · rename_i rv Ho hcall
        have hm := hC _ _ _ _ _ hcall
        obtain ⟨hip, hcp, hlp⟩ := packed st1.inv hLn hq
        have hrun := hm _ S1 w vs hip (ha1.ren _ hcp)
        split at h
        · rename_i hcond
          cases h
          simp only [Bool.and_eq_true, List.isEmpty_iff] at hcond
          obtain ⟨⟨hL0, hHo⟩, hnv⟩ := hcond
          subst hL0
          simp only [pack] at hq; cases hq
          refine hrun.mono fun e w' ⟨y, ρ', S', he, st, hr⟩ => ⟨y, he, ρ, S, ?_, noViews_rel hnv hr⟩
          have hfr : ∀ b, b < w.heap.size → w'.heap[b]? = w.heap[b]? := fun b hb => st.frame b hb fun l ⟨o, ho, _⟩ => by simp [hget] at ho
          have hinv : Inv ρ S H w' := ⟨fun l o ho => (hi.obj l o ho).keep (fun hr => hfr _ ((hi.obj l o ho).lt hr)) (fun hl c hc => hfr c (hi.hlt l c ⟨o, ho, hl⟩ hc)) (fun _ h => h) (fun b hb => hfr b (hi.dom b hb)) st.grow fun l _ => .refl ρ H l,
            hi.inj, hi.sep, fun b hb => Nat.lt_of_lt_of_le (hi.dom b hb) st.size, fun l b hl hb => Nat.lt_of_lt_of_le (hi.hlt l b hl hb) st.size, hi.hno⟩
          exact ⟨hinv, fun _ h => h, fun _ h => .inl h, fun b hb _ => hfr b hb, st.grow, st.size, fun l b hl hf => .inr ⟨l, hl, hf⟩, fun l _ => .refl ρ H l, st.outer⟩
        · split at h
          · rename_i hcond
            simp only [Bool.and_eq_true, List.all_eq_true, Bool.or_eq_true, decide_eq_true_eq] at hcond
            obtain ⟨⟨hok, hnd⟩, hLnm⟩ := hcond
            cases h
            refine hrun.mono fun e w' ⟨y, ρ', S', he, st, hr⟩ => ⟨y, he, ?_⟩
            obtain ⟨ρ2, s2, r2⟩ := unpacked st1.inv hLn hq hLnm hok (fun x hx hxl m p hp hmne => hno1 _ (List.mem_map.2 ⟨x, List.mem_filter.2 ⟨hx, by simpa using hxl⟩, rfl⟩) m p hp hmne) st hr
            refine ⟨ρ2, S', ?_, ?_⟩
            · rw [applyU_app, hH1]
              exact (st1.trans s2).weaken fun l h => h.elim (fun h => h.elim) fun h => h
            · rw [applyU_app, hH1]
              exact r2
          · cases h
end
end Bz

/- One operation. -/
namespace Bz
open Go

section
variable {P : Program} {w : World} {ρ : Nm} {S : Nat → Prop} {H : Heap} {o : Oper} {a : Act} {next : Act → World → Prop} {Q : Exit → Act → World → Prop}

theorem val_wp {s : Sem Value} (he : execOp a.eval o = (do let v ← s; pure (.value v))) {y : Value} {w' : World} (hr : s.run P w = .ok y w') (hn : next (a.put o.dst y) w') : o.wp P a w next Q := by
  unfold Oper.wp; rw [he]; simp [hr, Oper.upon, hn]

theorem skip_wp {s : Sem Unit} (he : execOp a.eval o = (do s; pure .skip)) {w' : World} (hr : s.run P w = .ok () w') (hn : next (a.put o.dst Go.undef) w') : o.wp P a w next Q := by
  unfold Oper.wp; rw [he]; simp [hr, Oper.upon, hn]

theorem tup_undef : RelA ρ S H w (.tup []) Go.undef := .tup [] #[] (fun _ => Go.undef) rfl (fun i x h => by simp at h) (fun i x h => by simp at h)

theorem cvM_rel {E : List AV} (he : RelE ρ S H w E a.tmps) {x : Option Operand} {q : Option AOpd} (h : cvM x = some q) : OptRel ρ S H w (q.map (aev E)) (x.map a.eval) := by
  cases x with
  | none => simp only [cvM] at h; cases h; exact .none
  | some x =>
    simp only [cvM] at h
    obtain ⟨y, hy, rfl⟩ := Option.map_eq_some_iff.1 h
    exact .some _ _ (cvO_rel he hy).rel

theorem cvParts_get {fs : Array Field} : ∀ {xs : List (Nat × Operand)} {as : List (Nat × Nat × AOpd)}, cvParts P fs xs = some as → as.length = xs.length ∧
    ∀ (k : Nat) (p : Nat × Nat × AOpd), as[k]? = some p → ∃ i x f, xs[k]? = some (i, x) ∧ fs[i]? = some f ∧ p.1 = f.offset ∧ p.2.1 = szOf P f.type ∧ cvO x = some p.2.2
  | [], as, h => by simp only [cvParts] at h; cases h; simp
  | (i, x) :: r, as, h => by
    simp only [cvParts] at h
    split at h
    · rename_i f q qs hf hq hqs
      cases h
      obtain ⟨h1, h2⟩ := cvParts_get hqs
      refine ⟨by simp [h1], fun k p hp => ?_⟩
      cases k with
      | zero => simp at hp; subst hp; exact ⟨i, x, f, rfl, hf, rfl, rfl, hq⟩
      | succ k => simp at hp; obtain ⟨i, x, f, g1, g2⟩ := h2 k p hp; exact ⟨i, x, f, by simpa using g1, g2⟩
    · cases h

theorem cvPartsA_get {e : TypeId} : ∀ {xs : List (Nat × Operand)} {as : List (Nat × Nat × AOpd)}, cvPartsA P e xs = some as → as.length = xs.length ∧
    ∀ (k : Nat) (p : Nat × Nat × AOpd), as[k]? = some p → ∃ i x, xs[k]? = some (i, x) ∧ p.1 = i * szOf P e ∧ p.2.1 = szOf P e ∧ cvO x = some p.2.2
  | [], as, h => by simp only [cvPartsA] at h; cases h; simp
  | (i, x) :: r, as, h => by
    simp only [cvPartsA] at h
    split at h
    · rename_i q qs hq hqs
      cases h
      obtain ⟨h1, h2⟩ := cvPartsA_get hqs
      refine ⟨by simp [h1], fun k p hp => ?_⟩
      cases k with
      | zero => simp at hp; subst hp; exact ⟨i, x, rfl, rfl, rfl, hq⟩
      | succ k => simp at hp; obtain ⟨i, x, g1, g2⟩ := h2 k p hp; exact ⟨i, x, by simpa using g1, g2⟩
    · cases h

theorem cvElems_get : ∀ {xs : List (Nat × Operand)} {as : List (Nat × AOpd)}, cvElems xs = some as → as.length = xs.length ∧
    ∀ (k : Nat) (p : Nat × AOpd), as[k]? = some p → ∃ x, xs[k]? = some (p.1, x) ∧ cvO x = some p.2
  | [], as, h => by simp only [cvElems] at h; cases h; simp
  | (i, x) :: r, as, h => by
    simp only [cvElems] at h
    split at h
    · rename_i q qs hq hqs
      cases h
      obtain ⟨h1, h2⟩ := cvElems_get hqs
      refine ⟨by simp [h1], fun k p hp => ?_⟩
      cases k with
      | zero => simp at hp; subst hp; exact ⟨x, rfl, hq⟩
      | succ k => simp at hp; obtain ⟨x, g1, g2⟩ := h2 k p hp; exact ⟨x, by simpa using g1, g2⟩
    · cases h

theorem args_rel {E : List AV} (he : RelE ρ S H w E a.tmps) {xs : Array Operand} {qs : List AOpd} (h : cvOs xs.toList = some qs) : ArgsRel ρ S H w (qs.map (aev E)) (xs.map a.eval) := by
  obtain ⟨h1, h2⟩ := cvOs_get h
  refine ⟨by simp [h1], fun i x hx => ?_⟩
  rw [List.getElem?_map] at hx
  obtain ⟨q, hq, rfl⟩ := Option.map_eq_some_iff.1 hx
  have hi : i < xs.toList.length := by rw [← h1]; exact (List.getElem?_eq_some_iff.1 hq).1
  obtain ⟨q', hq', hc⟩ := h2 i _ (List.getElem?_eq_getElem hi)
  rw [hq] at hq'; cases hq'
  have hi' : i < xs.size := by simpa using hi
  refine ⟨a.eval xs[i], by simp [Array.getElem?_eq_getElem hi'], ?_⟩
  have := (cvO_rel he hc).rel
  simpa using this

theorem ArgsRel.two {x y : AV} {vs : Array Value} (h : ArgsRel ρ S H w [x, y] vs) : ∃ a b, vs = #[a, b] ∧ RelA ρ S H w x a ∧ RelA ρ S H w y b := by
  obtain ⟨h1, h2⟩ := h
  obtain ⟨a, ha, hra⟩ := h2 0 x rfl
  obtain ⟨b, hb, hrb⟩ := h2 1 y rfl
  obtain ⟨l⟩ := vs
  match l, h1, ha, hb with
  | [a', b'], _, ha, hb => simp at ha hb; subst ha hb; exact ⟨_, _, rfl, hra, hrb⟩

theorem ArgsRel.one {x : AV} {vs : Array Value} (h : ArgsRel ρ S H w [x] vs) : ∃ a, vs = #[a] ∧ RelA ρ S H w x a := by
  obtain ⟨h1, h2⟩ := h
  obtain ⟨a, ha, hra⟩ := h2 0 x rfl
  obtain ⟨l⟩ := vs
  match l, h1, ha with
  | [a'], _, ha => simp at ha; subst ha; exact ⟨_, rfl, hra⟩

theorem ArgsRel.append {xs ys : List AV} {vs us : Array Value} (h : ArgsRel ρ S H w xs vs) (h' : ArgsRel ρ S H w ys us) : ArgsRel ρ S H w (xs ++ ys) (vs ++ us) := by
  refine ⟨by simp [h.1, h'.1], fun i x hx => ?_⟩
  by_cases hi : i < xs.length
  · rw [List.getElem?_append_left hi] at hx
    obtain ⟨y, hy, hr⟩ := h.2 i x hx
    exact ⟨y, by rw [Array.getElem?_append_left (h.1 ▸ hi)]; exact hy, hr⟩
  · rw [List.getElem?_append_right (by omega)] at hx
    obtain ⟨y, hy, hr⟩ := h'.2 _ x hx
    exact ⟨y, by rw [Array.getElem?_append_right (by have := h.1; omega), ← h.1]; exact hy, hr⟩


theorem pure_wp {nw : List Nat} {v : AV} (hi : Inv ρ S H w) (hn : ∀ w' y ρ' S', Step (fun l => l ∈ nw) ρ S H w ρ' S' (applyU H []) w' → RelA ρ' S' (applyU H []) w' v y → next (a.put o.dst y) w')
    {s : Sem Value} (he : execOp a.eval o = (do let v ← s; pure (.value v))) (hr : ∃ y, s.run P w = .ok y w ∧ RelA ρ S H w v y) : o.wp P a w next Q := by
  obtain ⟨y, hy, hr⟩ := hr
  exact val_wp he hy (hn w y ρ S (.refl hi) hr)

theorem nil_opd {k : NK} {x : Operand} {q : AOpd} (h : cvO x = some q) (hk : isNilOpd k q = true) : a.eval x = nilOf k := by
  cases x with
  | const v =>
    simp only [cvO] at h
    obtain ⟨y, hy, rfl⟩ := Option.map_eq_some_iff.1 h
    show v = nilOf k
    cases v with
    | agg cs => simp only [cv] at hy; obtain ⟨ds, _, rfl⟩ := Option.map_eq_some_iff.1 hy; simp [isNilOpd] at hk
    | slice p n c =>
      simp only [cv] at hy
      obtain ⟨d, hd, rfl⟩ := Option.map_eq_some_iff.1 hy
      unfold cvD at hd
      split at hd <;> cases hd <;> rename_i e <;> cases e
      simp [isNilOpd] at hk; subst hk; rfl
    | pointer p =>
      simp only [cv] at hy
      obtain ⟨d, hd, rfl⟩ := Option.map_eq_some_iff.1 hy
      unfold cvD at hd
      split at hd <;> cases hd <;> rename_i e <;> cases e
      simp [isNilOpd] at hk; subst hk; rfl
    | map p =>
      simp only [cv] at hy
      obtain ⟨d, hd, rfl⟩ := Option.map_eq_some_iff.1 hy
      unfold cvD at hd
      split at hd <;> cases hd <;> rename_i e <;> cases e
      simp [isNilOpd] at hk; subst hk; rfl
    | nilFunc =>
      simp only [cv, cvD] at hy; cases hy
      simp [isNilOpd] at hk; subst hk; rfl
    | _ => simp only [cv, cvD] at hy; first | cases hy; simp [isNilOpd] at hk | simp at hy
  | tmp t => simp only [cvO] at h; cases h; simp [isNilOpd] at hk
  | func f => simp only [cvO] at h; cases h; simp [isNilOpd] at hk
  | global g => simp [cvO] at h

theorem guard_nil (op : BinOp) (t : TypeId) (x y : Operand) (k : NK) (v : Value) : (eqGuard op t x y v (nilOf k)).run P w = .ok () w ∧ (eqGuard op t x y (nilOf k) v).run P w = .ok () w := by
  constructor <;> (unfold eqGuard; cases op <;> cases k <;> cases v <;> rfl)

theorem bin_nil (t : TypeId) (k : NK) (v : Value) : binOp .eql t v (nilOf k) = (do pure (.bool (← Op.equal t v (nilOf k)))) ∧ binOp .eql t (nilOf k) v = (do pure (.bool (← Op.equal t (nilOf k) v))) ∧
    binOp .neq t v (nilOf k) = (do pure (.bool (!(← Op.equal t v (nilOf k))))) ∧ binOp .neq t (nilOf k) v = (do pure (.bool (!(← Op.equal t (nilOf k) v)))) := by
  refine ⟨?_, ?_, ?_, ?_⟩ <;> (cases k <;> cases v <;> rfl)

theorem nilcmp_rel {k : NK} {op : BinOp} {t : TypeId} {d : TypeDesc} (ht : P.underlying t = some d) (hk : kindOf k d) {x y : Operand} {qa qb : AOpd} {E : List AV} (he : RelE ρ S H w E a.tmps)
    (hx : cvO x = some qa) (hy : cvO y = some qb) {q : AOp} (hq : cvNil k op qa qb = some q) {X : Ctx} {nm : Nat} {v : AV} {u : Upd} {nw : List Nat} (h : aop X nm H (q.map (aev E)) = some (v, u, nw)) :
    u = [] ∧ ∃ z, ((do eqGuard op t x y (a.eval x) (a.eval y); binOp op t (a.eval x) (a.eval y) : Sem Value)).run P w = .ok z w ∧ RelA ρ S H w v z := by
  have key : ∀ {neg : Bool} {z : Operand} {qz : AOpd}, cvO z = some qz → aop X nm H (.isnil k neg (aev E qz)) = some (v, u, nw) → u = [] ∧ ∃ b, RelA ρ S H w v (.bool (if neg then !b else b)) ∧
      (Op.equal t (a.eval z) (nilOf k)).run P w = .ok b w ∧ (Op.equal t (nilOf k) (a.eval z)).run P w = .ok b w := by
    intro neg z qz hz h
    simp only [aop] at h
    obtain ⟨b, hb, h⟩ := Option.map_eq_some_iff.1 h
    cases h
    split at hb
    · rename_i hl
      have hr := (cvO_rel he hz).rel
      generalize aev E qz = xv at hr hl hb
      unfold isNilU at hb
      split at hb
      · rename_i b' hb'
        cases hb
        obtain ⟨g1, g2⟩ := isNil_rel hr hl hb' ht hk
        exact ⟨rfl, b', rel_bool _, g1, g2⟩
      · split at hb <;> try (cases hb; done)
        · cases hb
          cases hr with
          | d _ _ hd =>
            have : ∃ p n c, a.eval z = .slice p n c := by
              generalize a.eval z = zv at hd
              cases hd <;> exact ⟨_, _, _, rfl⟩
            obtain ⟨p, n, c, e⟩ := this
            rw [e]
            obtain ⟨g1, g2⟩ := nil_eq (P := P) (w := w) ht hk 9999 (v := .slice p n c) (b := p.isNone) (.inr (.inl ⟨p, n, c, rfl, rfl, rfl⟩))
            exact ⟨rfl, p.isNone, .anyb _, g1, g2⟩
        · cases hb
          cases hr with
          | os _ _ _ _ _ _ ho =>
            obtain ⟨sz, hc⟩ := liveA_cnt hl
            have : ∃ p n c, a.eval z = .slice p n c := by
              rcases (ho sz _ hc).2 rfl with ⟨_, _, b, e⟩ | ⟨_, a', cap, cs, T, fr, e, _⟩
              · exact ⟨_, _, _, e⟩
              · exact ⟨_, _, _, e⟩
            obtain ⟨p, n, c, e⟩ := this
            rw [e]
            obtain ⟨g1, g2⟩ := nil_eq (P := P) (w := w) ht hk 9999 (v := .slice p n c) (b := p.isNone) (.inr (.inl ⟨p, n, c, rfl, rfl, rfl⟩))
            exact ⟨rfl, p.isNone, .anyb _, g1, g2⟩
    · cases hb
  unfold cvNil at hq
  split at hq
  · split at hq
    · rename_i hn
      cases hq
      obtain ⟨rfl, b, hrel, g1, g2⟩ := key hx h
      rw [nil_opd (a := a) hy hn]
      refine ⟨rfl, .bool b, ?_, by simpa using hrel⟩
      rw [(bin_nil t k _).1]; simp [(guard_nil _ t x y k _).1, g1]
    · split at hq
      · rename_i hn
        cases hq
        obtain ⟨rfl, b, hrel, g1, g2⟩ := key hy h
        rw [nil_opd (a := a) hx hn]
        refine ⟨rfl, .bool b, ?_, by simpa using hrel⟩
        rw [(bin_nil t k _).2.1]; simp [(guard_nil _ t x y k _).2, g2]
      · cases hq
  · split at hq
    · rename_i hn
      cases hq
      obtain ⟨rfl, b, hrel, g1, g2⟩ := key hx h
      rw [nil_opd (a := a) hy hn]
      refine ⟨rfl, .bool (!b), ?_, by simpa using hrel⟩
      rw [(bin_nil t k _).2.2.1]; simp [(guard_nil _ t x y k _).1, g1]
    · split at hq
      · rename_i hn
        cases hq
        obtain ⟨rfl, b, hrel, g1, g2⟩ := key hy h
        rw [nil_opd (a := a) hx hn]
        refine ⟨rfl, .bool (!b), ?_, by simpa using hrel⟩
        rw [(bin_nil t k _).2.2.2]; simp [(guard_nil _ t x y k _).2, g2]
      · cases hq
  · cases hq

end
end Bz

/- Rows whose elements may lead to something. -/
namespace Bz
open Go

section
variable {P : Program} {w : World} {ρ : Nm} {S : Nat → Prop} {H : Heap}

theorem flat_len {α : Type} {sz : Nat} : ∀ {es : List (List α)}, (∀ c ∈ es, c.length = sz) → es.flatten.length = es.length * sz
  | [], _ => by simp
  | c :: r, h => by
    rw [List.flatten_cons, List.length_append, h c (by simp), flat_len fun d hd => h d (by simp [hd]), List.length_cons, Nat.add_mul, Nat.one_mul, Nat.add_comm]

theorem flat_get {α : Type} {sz : Nat} : ∀ {es : List (List α)}, (∀ c ∈ es, c.length = sz) → ∀ {i j : Nat} {c : List α} {x : α}, es[i]? = some c → c[j]? = some x → es.flatten[i * sz + j]? = some x
  | [], _, i, j, c, x, hi, _ => by simp at hi
  | a :: r, h, i, j, c, x, hi, hj => by
    have ha := h a (by simp)
    cases i with
    | zero =>
      simp at hi; subst hi
      rw [Nat.zero_mul, Nat.zero_add, List.flatten_cons, List.getElem?_append_left (List.getElem?_eq_some_iff.1 hj).1]; exact hj
    | succ i =>
      simp at hi
      rw [List.flatten_cons, List.getElem?_append_right (by rw [ha, Nat.add_mul]; omega), ha, show (i + 1) * sz + j - sz = i * sz + j by rw [Nat.add_mul]; omega]
      exact flat_get (fun d hd => h d (by simp [hd])) hi hj

theorem flat_at {α : Type} {sz : Nat} : ∀ {es : List (List α)}, (∀ c ∈ es, c.length = sz) → ∀ {k : Nat} {x : α}, es.flatten[k]? = some x → ∃ i c j, es[i]? = some c ∧ c[j]? = some x ∧ k = i * sz + j
  | [], _, k, x, h => by simp at h
  | a :: r, h, k, x, hk => by
    have ha := h a (by simp)
    rw [List.flatten_cons] at hk
    by_cases hl : k < a.length
    · rw [List.getElem?_append_left hl] at hk
      exact ⟨0, a, k, rfl, hk, by omega⟩
    · rw [List.getElem?_append_right (by omega)] at hk
      obtain ⟨i, c, j, h1, h2, h3⟩ := flat_at (fun d hd => h d (by simp [hd])) hk
      exact ⟨i + 1, c, j, by simpa using h1, h2, by rw [Nat.add_mul]; omega⟩

/-- a row, cell by cell -/
def Cells (ρ : Nm) (S : Nat → Prop) (H : Heap) (w : World) (G : Nat → Nat → Prop) (cs : List AV) (vs : Array Value) : Prop :=
  ∀ (k : Nat) (x : AV), cs[k]? = some x → ∃ v, vs[k]? = some v ∧ Flat v ∧ CellR ρ S H w (G k) x v

theorem oar_cells {K : Nat → Prop} {b sz : Nat} {es : List (List AV)} (h : ObjAt ρ S H w K b (.oar sz es)) (hne : es ≠ []) :
    0 < sz ∧ (∀ c ∈ es, c.length = sz) ∧ ∃ (vs : Array Value) (T : TypeId), w.heap[b]? = some (.cells vs T (0, 0)) ∧ es.length * sz ≤ vs.size ∧ ∃ G, Split K (es.length * sz) G ∧ Cells ρ S H w G es.flatten vs := by
  obtain ⟨h0, h1, h2⟩ := h
  obtain ⟨vs, T, hb, hs, G, hG, hc⟩ := h2 hne
  refine ⟨h0, h1, vs, T, hb, hs, G, hG, fun k x hk => ?_⟩
  obtain ⟨i, c, j, e1, e2, rfl⟩ := flat_at h1 hk
  exact hc i c e1 j x e2

theorem oar_mk {K : Nat → Prop} {b sz : Nat} {es : List (List AV)} (h0 : 0 < sz) (h1 : ∀ c ∈ es, c.length = sz) {vs : Array Value} {T : TypeId} (hb : w.heap[b]? = some (.cells vs T (0, 0))) (hs : es.length * sz ≤ vs.size)
    {G : Nat → Nat → Prop} (hG : Split K (es.length * sz) G) (hc : Cells ρ S H w G es.flatten vs) : ObjAt ρ S H w K b (.oar sz es) :=
  ⟨h0, h1, fun _ => ⟨vs, T, hb, hs, G, hG, fun i c hi j x hj => hc _ x (flat_get h1 hi hj)⟩⟩

theorem sizedO_spec {sz : Nat} {ys : List (List AV)} (h : sizedO sz ys = true) : (∀ c ∈ ys, c.length = sz) ∧ ∀ (k : Nat) (x : AV), ys.flatten[k]? = some x → flatA x = true := by
  simp only [sizedO, List.all_eq_true, Bool.and_eq_true, beq_iff_eq] at h
  refine ⟨fun c hc => (h c hc).1, fun k x hk => ?_⟩
  obtain ⟨c, hc, hx⟩ := List.mem_flatten.1 (List.mem_of_getElem? hk)
  exact (h c hc).2 x hx

theorem refsLL_flat {ys : List (List AV)} {k : Nat} {x : AV} (h : ys.flatten[k]? = some x) : ∀ l ∈ refs x, l ∈ refsLL ys := by
  obtain ⟨c, hc, hx⟩ := List.mem_flatten.1 (List.mem_of_getElem? h)
  obtain ⟨i, hi, rfl⟩ := List.getElem_of_mem hc
  obtain ⟨j, hj, rfl⟩ := List.getElem_of_mem hx
  exact refsLL_mem (List.getElem?_eq_getElem hi) (List.getElem?_eq_getElem hj)

/-- what is appended, read -/
theorem rowsO_read {sz : Nat} (hi : Inv ρ S H w) {y : AV} {vy : Value} (hy : RelA ρ S H w y vy) {ys : List (List AV)} (h : rowsO H sz y = some ys) (hs : sizedO sz ys = true) :
    ∃ ly, ly ∈ refs y ∧ hget H ly = some (.oar sz ys) ∧ 0 < sz ∧ (∀ w1 : World, (Builtin.lenOf vy).run P w1 = .ok ys.length w1) ∧ ∃ fl : Array Value,
      (∀ w1 : World, w1.heap = w.heap → (Builtin.firstCells sz ys.length vy).run P w1 = .ok fl w1) ∧ fl.size = ys.length * sz ∧ (∀ v ∈ fl.toList, Flat v) ∧ ∀ (k : Nat) (x : AV), ys.flatten[k]? = some x → ∃ v, fl[k]? = some v ∧ Flat v ∧ RelA ρ S H w x v := by
  unfold rowsO at h
  split at h
  · rename_i l n len
    split at h
    · rename_i z es hes
      split at h
      · rename_i hc
        obtain ⟨hn, hlen, rfl⟩ := hc
        cases h
        obtain ⟨h1, h2⟩ := sizedO_spec hs
        have hpos := (hi.obj l _ hes).1
        refine ⟨l, by simp [refs], hes, hpos, ?_⟩
        cases hy with
        | os _ _ _ _ _ _ ho =>
          rcases (ho z n (cnt_oar hes hn)).2 rfl with ⟨h0, hl0, bb, rfl⟩ | ⟨⟨hn0, hct⟩, a, cap, cs, T, fr, rfl, hle, ha, hblk, hbsz⟩
          · have : ys = [] := List.length_eq_zero_iff.1 (by omega)
            subst this
            refine ⟨fun w1 => rfl, #[], fun w1 _ => run_first0 z bb 0 w1, by simp, by simp, fun k x hk => by simp at hk⟩
          · have hne : ys ≠ [] := by intro e; subst e; exact hn0 hn.symm
            obtain ⟨_, _, vs, T', hb, hvs, G, _, hcl⟩ := oar_cells (hi.obj l _ hes) hne
            rw [hblk] at hb; cases hb
            have hcap := hct _ _ _ rfl
            have ha' : a = ⟨ρ l, 0, none⟩ := by simpa using ha.resolve_left (by omega)
            subst ha'
            have cell : ∀ (k : Nat) (x : AV), ys.flatten[k]? = some x → ∃ v, cs[k]? = some v ∧ Flat v ∧ RelA ρ S H w x v := fun k x hk => by
              obtain ⟨v, hv, hf, hr⟩ := hcl k x hk
              exact ⟨v, hv, hf, hr.rel⟩
            have hflen := flat_len h1
            have get : ∀ k, k < ys.length * z → ∃ v, cs[k]? = some v ∧ Flat v := fun k hk => by
              obtain ⟨v, hv, hf, _⟩ := cell k _ (List.getElem?_eq_getElem (by rw [hflen]; exact hk))
              exact ⟨v, hv, hf⟩
            refine ⟨fun w1 => by simp [Builtin.lenOf]; omega, ((List.range (ys.length * z)).map fun k => cs.getD k undef).toArray, fun w1 hw1 => ?_, by simp, fun v hv => ?_, fun k x hk => ?_⟩
            · simp only [Builtin.firstCells]
              refine run_loadCells w1 _ (ys.length * z) _ fun k hk => ?_
              obtain ⟨v, hv, _⟩ := get k hk
              rw [addr_add, Nat.zero_add, cell_at (w := w1) (by rw [hw1]; exact hblk), Array.getD_eq_getD_getElem?, hv]; rfl
            · simp only [List.mem_map, List.mem_range] at hv
              obtain ⟨k, hk, rfl⟩ := hv
              obtain ⟨v, hv, hf⟩ := get k hk
              rw [Array.getD_eq_getD_getElem?, hv]; exact hf
            · obtain ⟨v, hv, hf, hr⟩ := cell k x hk
              have hlt : k < ys.length * z := by rw [← hflen]; exact (List.getElem?_eq_some_iff.1 hk).1
              exact ⟨v, by simp [hlt, hv], hf, hr⟩
      · cases h
    · cases h
  · cases h

def gIf (n : Nat) (G : Nat → Nat → Prop) : Nat → Nat → Prop := fun k c => k < n ∧ G k c

theorem isO_data (H : Heap) : isO H (.d (.vs true [])) = false := rfl

theorem appendO_rel {N : Nat → Prop} {argTypes : Array TypeId} {ty t t2 e : TypeId} (h1 : argTypes[0]? = some t) (h2 : argTypes[1]? = some t2) (ht : P.underlying t = some (.slice e)) {d2 : TypeDesc} (ht2 : P.underlying t2 = some d2)
    (hd2 : d2 = .string ∨ ∃ e2, d2 = .slice e2) (he : szOf P e ≠ 0) (hby : P.bytesOf e ≤ 256) {z : List D} (hz : zeroDs P e = some z) (hzl : z.length = szOf P e) (hi : Inv ρ S H w) {nm : Nat}
    {x y : AV} {vx vy : Value} (hx : RelA ρ S H w x vx) (hy : RelA ρ S H w y vy) {ys : List (List AV)} (hys : rowsO H (szOf P e) y = some ys) (hsd : sizedO (szOf P e) ys = true) {v : AV} {u : Upd}
    (h : aappendO nm H (szOf P e) x ys = some (v, u)) (hN : x = .d (.vs true []) → u ≠ [] → N nm ∧ (∀ m p, hget H m = some p → m ≠ nm → nm ∉ refsO p) ∧ nm ∉ refs y) (hnmu : ∀ l n off len, x = .os l n off len → ¬ N l) :
    ∃ w' r, (Builtin.append_ argTypes ty #[vx, vy]).run P w = .ok r w' ∧ ∃ ρ' S', Step N ρ S H w ρ' S' (applyU H u) w' ∧ RelA ρ' S' (applyU H u) w' v r := by
  have h0 : 0 < szOf P e := Nat.pos_of_ne_zero he
  obtain ⟨ly, hly, hgy, _, hlen, new, hnew, hnsz, hnfl, hncell⟩ := rowsO_read (P := P) hi hy hys hsd
  obtain ⟨hyl, hyf⟩ := sizedO_spec hsd
  have hyflen := flat_len hyl
  -- cells of a new block
  have grown : ∀ {es : List (List AV)} {G : Nat → Nat → Prop} {old rest : Array Value} {ρ' : Nm} {H' : Heap} {w' : World}, (∀ c ∈ es, c.length = szOf P e) → old.size = es.length * szOf P e → Cells ρ' S H' w' G es.flatten old →
      (∀ (k : Nat) (x : AV) (v : Value), ys.flatten[k]? = some x → RelA ρ S H w x v → RelA ρ' S H' w' x v) → Cells ρ' S H' w' (gIf (es.length * szOf P e) G) (es ++ ys).flatten (old ++ new ++ rest) := by
    intro es G old rest ρ' H' w' hel hos hold hrel k x hk
    have hefl := flat_len hel
    rw [List.flatten_append] at hk
    by_cases hl : k < es.length * szOf P e
    · rw [List.getElem?_append_left (by omega)] at hk
      obtain ⟨v, hv, hf, hr⟩ := hold k x hk
      exact ⟨v, by rw [Array.append_assoc, Array.getElem?_append_left (by omega)]; exact hv, hf, hr.keep (fun _ h => h) (fun _ _ => rfl) (.refl _) (fun _ _ => rfl) (fun _ h => ⟨hl, h⟩) fun l _ => .refl _ _ _⟩
    · rw [List.getElem?_append_right (by omega), hefl] at hk
      have hlt := (List.getElem?_eq_some_iff.1 hk).1
      obtain ⟨v, hv, hf, hr⟩ := hncell _ x hk
      exact ⟨v, by rw [Array.append_assoc, Array.getElem?_append_right (by omega), hos, Array.getElem?_append_left (by omega)]; exact hv, hf, .solid (hrel _ x v hk hr) (hyf _ x hk)⟩
  have split0 : ∀ {K : Nat → Prop} {n m : Nat} {G : Nat → Nat → Prop}, Split K n G → Split K m (gIf n G) := fun hG =>
    ⟨fun j c _ hc => hG.1 j c hc.1 hc.2, fun i j c _ _ hi' hj' => hG.2 i j c hi'.1 hj'.1 hi'.2 hj'.2⟩
  have noG : Split (fun _ => False) (0 * szOf P e) (fun _ _ => False) := ⟨fun _ _ _ h => h, fun _ _ _ _ _ h => h.elim⟩
  have nilC : ∀ {ρ' : Nm} {H' : Heap} {w' : World}, Cells ρ' S H' w' (fun _ _ => False) ([] : List (List AV)).flatten #[] := fun k x hk => by simp at hk
  unfold aappendO at h
  split at h
  · -- nil
    cases hx with
    | d _ _ hd =>
      cases hd with
      | vnil tt bb =>
        split at h
        · rename_i hemp
          cases h
          have hys0 : ys = [] := by simpa using hemp
          subst hys0
          have hnew0 : new = #[] := by apply Array.eq_empty_of_size_eq_zero; rw [hnsz]; simp
          refine ⟨w, _, append_room (n := 0) h1 h2 ht ht2 hd2 he (hlen w) (by simp) (hnew w rfl) (fun a _ => by rw [hnew0]; rfl) (fun _ => rfl), ρ, S, .refl hi, ?_⟩
          exact .d _ _ (.vnil _ _)
        · rename_i hne
          split at h
          · rename_i hlim
            cases h
            have hpos : ys.length ≠ 0 := by
              intro e; exact hne (by simp [List.length_eq_zero_iff.1 e])
            obtain ⟨hNn, hno, hnmy⟩ := hN rfl (by simp)
            obtain ⟨newCap, rest, hc1, hc2, hrun⟩ := append_grow (w := w) (base := bb) (sLen := 0) (sCap := 0) (old := #[]) (new := new) (argTypes := argTypes) (ty := ty) h1 h2 ht ht2 hd2 he hby hz hzl (hlen w) (by omega) (by omega) (run_first0 (szOf P e) bb 0 w.drew) (hnew w.drew rfl)
            simp only [Nat.zero_add] at hc1 hc2 hrun
            refine ⟨_, _, hrun, upd ρ nm w.heap.size, S, ?_, ?_⟩
            · refine step_push hi nm (.oar (szOf P e) ys) (.cells (#[] ++ new ++ rest) e) _ rfl hNn hno fun hrel _ hq => ?_
              have := grown (es := []) (G := fun _ _ => False) (old := #[]) (rest := rest) (ρ' := upd ρ nm w.heap.size) (H' := hset H nm (.oar (szOf P e) ys)) (by simp) (by simp) nilC
                (fun k x v hk hr => hrel x v (fun hm => hno ly _ hgy (fun e => hnmy (e ▸ hly)) (refsLL_flat hk nm hm)) hr)
              exact oar_mk h0 hyl hq (by simp; omega) (split0 noG) this
            · refine os_newO (cs := #[] ++ new ++ rest) (T := e) (by rw [upd_self]) (by show (w.heap.push _)[w.heap.size]? = _; simp) rfl hc1 (fun e => absurd e hpos) ?_ (hget_set_self ..)
              simp only [Array.size_append, hnsz, hc2, Array.size_empty, Nat.zero_add, ← Nat.add_mul]
              exact Nat.mul_le_mul_right _ (by omega)
          · cases h
  · -- a row of the call's own
    rename_i l n len
    split at h
    · rename_i z' es hes
      split at h
      · rename_i hcond
        obtain ⟨c1, c2, rfl, hlim⟩ := hcond
        cases h
        subst c2
        cases hx with
        | os _ _ _ _ _ _ ho =>
          have hcnt : ∀ sz1 m1, Cnt (hset H l (.oar (szOf P e) (es ++ ys))) l sz1 m1 → sz1 = szOf P e ∧ m1 = len + ys.length := by
            intro sz1 m1 hm
            have hm := cnt_of (hget_set_self ..) hm
            simp only [rowsOf, Option.some.injEq, Prod.mk.injEq] at hm
            exact ⟨hm.1.symm, by rw [← hm.2, List.length_append, c1]⟩
          have hnN : ¬ N l := hnmu l len 0 len rfl
          rcases (ho (szOf P e) len (cnt_oar hes c1)).2 rfl with ⟨hn0, hlen0, bb, rfl⟩ | ⟨⟨hnn, hct⟩, a, cap, vs, T, fr, rfl, hle, ha, hblk, hbsz⟩
          · -- nowhere as yet
            have hes0 : es = [] := List.length_eq_zero_iff.1 (by omega)
            subst hes0; subst hn0
            by_cases hy0 : ys = []
            · subst hy0
              have hnew0 : new = #[] := by apply Array.eq_empty_of_size_eq_zero; rw [hnsz]; simp
              refine ⟨w, _, append_room (n := 0) h1 h2 ht ht2 hd2 he (hlen w) (by simp) (hnew w rfl) (fun a _ => by rw [hnew0]; rfl) (fun _ => rfl), ρ, S, step_ext hi (fun k => ?_), ?_⟩
              · show hget (hset H l _) k = hget H k
                rw [List.append_nil, hget_hset]
                split
                · subst_vars; exact hes.symm
                · rfl
              · refine .os _ _ _ _ _ trivial fun sz1 m1 hm => ?_
                obtain ⟨rfl, rfl⟩ := hcnt sz1 m1 hm
                exact ⟨Nat.le_refl _, fun _ => .inl ⟨rfl, rfl, _, rfl⟩⟩
            · have hpos : ys.length ≠ 0 := fun e => hy0 (List.length_eq_zero_iff.1 e)
              obtain ⟨newCap, rest, hc1, hc2, hrun⟩ := append_grow (w := w) (base := bb) (sLen := 0) (sCap := 0) (old := #[]) (new := new) (argTypes := argTypes) (ty := ty) h1 h2 ht ht2 hd2 he hby hz hzl (hlen w) (by omega) (by omega) (run_first0 (szOf P e) bb 0 w.drew) (hnew w.drew rfl)
              simp only [Nat.zero_add] at hc1 hc2 hrun
              have hheap : (w.drew.alloc (.cells (#[] ++ new ++ rest) e)).heap = w.heap.push (.cells (#[] ++ new ++ rest) e) := rfl
              have hoth : ∀ c, c ≠ w.heap.size → (w.drew.alloc (.cells (#[] ++ new ++ rest) e)).heap[c]? = w.heap[c]? := by
                intro c hc; rw [hheap, Array.getElem?_push, if_neg hc]
              have hat : (w.drew.alloc (.cells (#[] ++ new ++ rest) e)).heap[w.heap.size]? = some (.cells (#[] ++ new ++ rest) e) := by rw [hheap]; simp
              refine ⟨_, _, hrun, upd ρ l w.heap.size, S, ?_, ?_⟩
              · refine step_write hi l (.oar (szOf P e) ([] ++ ys)) w.heap.size _ (.inl rfl) hoth (fun b cs T fr hb => ?_) (by rw [hheap]; simp) (.inr (comp_oar hes (by simp) (fun hl => ?_))) (.inl hnN) ?_
                · have := lt_of_get hb
                  exact ⟨cs, fr, by rw [hoth b (by omega)]; exact hb, rfl⟩
                · simp only [List.length_append, List.length_nil] at hl; omega
                · intro hrel _
                  have := grown (es := []) (G := fun _ _ => False) (old := #[]) (rest := rest) (ρ' := upd ρ l w.heap.size) (H' := hset H l (.oar (szOf P e) ([] ++ ys))) (by simp) (by simp) nilC
                    (fun k x v hk hr => hrel x v (fun _ _ => .inr hnN) hr)
                  exact oar_mk h0 (by simpa using hyl) hat (by simp; omega) (split0 noG) this
              · have := os_newO (ρ := upd ρ l w.heap.size) (S := S) (sz := szOf P e) (cs := #[] ++ new ++ rest) (T := e) (n := ys.length) (o := .oar (szOf P e) ([] ++ ys)) (by rw [upd_self]) hat (by simp [rowsOf]) hc1 (fun e => absurd e hpos) (by
                  simp only [Array.size_append, hnsz, hc2, Array.size_empty, Nat.zero_add, ← Nat.add_mul]
                  exact Nat.mul_le_mul_right _ (by omega)) (hget_set_self H l (.oar (szOf P e) ([] ++ ys)))
                simpa [applyU] using this
          have hesne : es ≠ [] := by intro e; subst e; exact hnn c1.symm
          obtain ⟨_, hel, vs', T', hb, hvs, G, hG, hcl⟩ := oar_cells (hi.obj l _ hes) hesne
          rw [hblk] at hb; cases hb
          simp only [Nat.zero_mul, Nat.zero_add] at ha hbsz
          have hefl := flat_len hel
          have hlive : Live H l := ⟨_, hes, by simpa [isLive] using hesne⟩
          have hcap := hct _ _ _ rfl
          have hc0 : cap ≠ 0 := by omega
          have ha' : a = ⟨ρ l, 0, none⟩ := ha.resolve_left hc0
          subst ha'
          have hbsz' := hbsz.resolve_left hc0
          have hyz : ∀ c ∈ es ++ ys, c.length = szOf P e := fun c hc => by
            rcases List.mem_append.1 hc with hc | hc
            · exact hel c hc
            · exact hyl c hc
          by_cases hroom : len + ys.length ≤ cap
          · -- in place
            have h5 : (len + ys.length) * szOf P e ≤ cap * szOf P e := Nat.mul_le_mul_right _ hroom
            have h6 : es.length * szOf P e + new.toList.length ≤ vs.toList.length := by
              rw [Nat.add_mul] at h5; simp; rw [hnsz, c1]; omega
            have hpl : (put vs.toList (es.length * szOf P e) new.toList).length = vs.toList.length := put_length _ _ _ h6
            have hst := run_storeCells_at (P := P) (ρ l) (es.length * szOf P e) T new.toList 0 vs w hblk (by simpa using h6) (fun v hv => flat_one (hnfl v hv))
            simp only [Nat.add_zero] at hst
            obtain ⟨g1, g2, g3, g4⟩ := setRow_grow (cs' := (put vs.toList (es.length * szOf P e) new.toList).toArray) hblk (by simpa using hpl)
            refine ⟨w.setRow (ρ l) (put vs.toList (es.length * szOf P e) new.toList).toArray, _, append_room h1 h2 ht ht2 hd2 he (hlen w) hroom (hnew w rfl) (fun b hb => ?_) (fun e => by cases e), updK ρ l (ρ l) (ρ.hid l), S, ?_, ?_⟩
            · cases hb
              rw [addr_add, ← c1, Nat.zero_add]
              exact hst
            · refine step_writeK hi l (.oar (szOf P e) (es ++ ys)) (ρ l) _ _ (.inr ⟨hlive, rfl⟩) (fun c h => ⟨hlive, h⟩) g2 g1 g3 (.inr (comp_oar hes (by simp) (fun _ => rfl))) (.inl hnN) ?_
              intro hrel _ hKw hSw
              refine oar_mk h0 hyz g4 (by simp only [List.size_toArray, hpl, List.length_append]; rw [c1, Array.length_toList]; exact Nat.le_trans h5 hbsz') (split0 hG) fun k x hk => ?_
              have hg := put_get vs.toList (es.length * szOf P e) new.toList h6 k
              rw [List.flatten_append] at hk
              by_cases hl : k < es.length * szOf P e
              · rw [List.getElem?_append_left (by omega)] at hk
                obtain ⟨v, hv, hf, hr⟩ := hcl k x hk
                rw [if_pos hl] at hg
                refine ⟨v, by rw [List.getElem?_toArray, hg]; simpa using hv, hf, hr.keep (fun _ h => h) hSw g1 (fun c hc => hKw c (hG.1 k c hl hc)) (fun _ h => ⟨hl, h⟩) fun m hm => ?_⟩
                by_cases em : m = l
                · subst em; exact comp_oar hes (by simp) (fun _ => rfl)
                · exact comp_ne em
              · rw [List.getElem?_append_right (by omega), hefl] at hk
                have hlt := (List.getElem?_eq_some_iff.1 hk).1
                obtain ⟨v, hv, hf, hr⟩ := hncell _ x hk
                rw [if_neg hl, if_pos (by simp; omega)] at hg
                exact ⟨v, by rw [List.getElem?_toArray, hg]; simpa using hv, hf, .solid (hrel x v (fun _ _ => .inr hnN) hr) (hyf _ x hk)⟩
            · refine .os _ _ _ _ _ trivial fun sz1 m1 hm => ?_
              obtain ⟨rfl, rfl⟩ := hcnt sz1 m1 hm
              refine ⟨Nat.le_refl _, fun _ => .inr ⟨⟨by omega, fun _ _ _ e6 => by cases e6; omega⟩, ⟨ρ l, 0, none⟩, cap, _, T, _, rfl, by omega, .inr (by rw [updK_self]; simp), by rw [updK_self]; exact g4, .inr ?_⟩⟩
              simp only [Nat.zero_add, List.size_toArray, hpl]
              simpa using hbsz'
          · -- elsewhere
            have hold : (Builtin.firstCells (szOf P e) len (.slice (some (⟨ρ l, 0, none⟩ : Addr)) len cap)).run P w.drew = .ok ((List.range (len * szOf P e)).map fun k => vs.getD k undef).toArray w.drew := by
              simp only [Builtin.firstCells]
              refine run_loadCells w.drew _ (len * szOf P e) _ fun k hk => ?_
              have hkv : k < vs.size := by rw [c1] at hvs; omega
              rw [addr_add, Nat.zero_add, cell_at (w := w.drew) hblk, Array.getD_eq_getD_getElem?, Array.getElem?_eq_getElem hkv]; rfl
            generalize hod : ((List.range (len * szOf P e)).map fun k => vs.getD k undef).toArray = old at hold
            have hosz : old.size = es.length * szOf P e := by rw [← hod]; simp [c1]
            have hog : ∀ k, k < es.length * szOf P e → old[k]? = vs[k]? := fun k hk => by
              have hkv : k < vs.size := by omega
              have hk' : k < len * szOf P e := by rw [← c1]; exact hk
              rw [← hod]; simp [hk', hkv]
            obtain ⟨newCap, rest, hc1, hc2, hrun⟩ := append_grow (w := w) (old := old) (new := new) (argTypes := argTypes) (ty := ty) h1 h2 ht ht2 hd2 he hby hz hzl (hlen w) (by omega) hroom hold (hnew w.drew rfl)
            have hheap : (w.drew.alloc (.cells (old ++ new ++ rest) e)).heap = w.heap.push (.cells (old ++ new ++ rest) e) := rfl
            have hoth : ∀ c, c ≠ w.heap.size → (w.drew.alloc (.cells (old ++ new ++ rest) e)).heap[c]? = w.heap[c]? := by
              intro c hc; rw [hheap, Array.getElem?_push, if_neg hc]
            have hat : (w.drew.alloc (.cells (old ++ new ++ rest) e)).heap[w.heap.size]? = some (.cells (old ++ new ++ rest) e) := by rw [hheap]; simp
            have hypos : 0 < ys.length := by omega
            have hgrow : Grow w (w.drew.alloc (.cells (old ++ new ++ rest) e)) := fun b cs T fr hb => by
              have := lt_of_get hb
              exact ⟨cs, fr, by rw [hoth b (by omega)]; exact hb, rfl⟩
            refine ⟨_, _, hrun, updK ρ l w.heap.size (ρ.hid l), S, ?_, ?_⟩
            · refine step_writeK hi l (.oar (szOf P e) (es ++ ys)) w.heap.size _ _ (.inl rfl) (fun c h => ⟨hlive, h⟩) hoth hgrow (by rw [hheap]; simp) (.inr (comp_oar hes (by simp) (fun hl => ?_))) (.inl hnN) ?_
              · simp only [List.length_append] at hl; omega
              · intro hrel _ hKw hSw
                refine oar_mk h0 hyz hat (by simp only [Array.size_append, hnsz, hosz, List.length_append, Nat.add_mul]; omega) (split0 hG) (grown hel hosz (fun k x hk => ?_) fun k x v hk hr => hrel x v (fun _ _ => .inr hnN) hr)
                have hl : k < es.length * szOf P e := by rw [← hefl]; exact (List.getElem?_eq_some_iff.1 hk).1
                obtain ⟨v, hv, hf, hr⟩ := hcl k x hk
                refine ⟨v, by rw [hog k hl]; exact hv, hf, hr.keep (fun _ h => h) hSw hgrow (fun c hc => hKw c (hG.1 k c hl hc)) (fun _ h => h) fun m hm => ?_⟩
                by_cases em : m = l
                · subst em; exact comp_oar hes (by simp) (fun hl => by simp only [List.length_append] at hl; omega)
                · exact comp_ne em
            · refine .os _ _ _ _ _ trivial fun sz1 m1 hm => ?_
              obtain ⟨rfl, rfl⟩ := hcnt sz1 m1 hm
              refine ⟨Nat.le_refl _, fun _ => .inr ⟨⟨by omega, fun _ _ _ e6 => by cases e6; omega⟩, ⟨w.heap.size, 0, none⟩, newCap, _, e, _, rfl, by omega, .inr (by rw [updK_self]; simp), by rw [updK_self]; exact hat, .inr ?_⟩⟩
              simp only [Nat.zero_add, Array.size_append, hnsz, hc2, hosz, c1, ← Nat.add_mul]
              exact Nat.mul_le_mul_right _ (by omega)
      · cases h
    · cases h
  · cases h

end
end Bz

/- Rows whose elements may lead to something: built. Loads that open. Arrays. -/
namespace Bz
open Go

section
variable {P : Program} {w : World} {ρ : Nm} {S : Nat → Prop} {H : Heap}

theorem flat_set {α : Type} {sz : Nat} : ∀ {es : List (List α)}, (∀ c ∈ es, c.length = sz) → ∀ {i : Nat} {d : List α}, i < es.length → d.length = sz → (es.set i d).flatten = put es.flatten (i * sz) d
  | [], _, i, d, hi, _ => by simp at hi
  | a :: r, h, i, d, hi, hd => by
    have ha := h a (by simp)
    cases i with
    | zero => simp [put, hd, ha]
    | succ i =>
      have ih := flat_set (es := r) (fun c hc => h c (by simp [hc])) (i := i) (d := d) (by simpa using hi) hd
      have e : (i + 1) * sz = a.length + i * sz := by rw [Nat.add_mul, ha]; omega
      simp only [List.set_cons_succ, List.flatten_cons, ih, put]
      rw [e, List.take_length_add_append]
      rw [show a.length + i * sz + d.length = a.length + (i * sz + d.length) by omega, List.drop_length_add_append]
      simp

def CellsF (ρ : Nm) (S : Nat → Prop) (H : Heap) (w : World) (cs : List AV) (vs : Array Value) : Prop :=
  ∀ (k : Nat) (x : AV), cs[k]? = some x → flatA x = true ∧ ∃ v, vs[k]? = some v ∧ Flat v ∧ RelA ρ S H w x v

theorem fillRowO_rel {sz : Nat} : ∀ (ps : List (Nat × AV)) (vs : List (Nat × Value)) (es : List (List AV)) (cells : Array Value),
    (∀ c ∈ es, c.length = sz) → es.length * sz ≤ cells.size → CellsF ρ S H w es.flatten cells → ps.length = vs.length →
    (∀ (k : Nat) (p : Nat × AV), ps[k]? = some p → ∃ v, vs[k]? = some (p.1, v) ∧ RelA ρ S H w p.2 v) →
    ∀ r, fillRowO sz es ps = some r → ∃ out, Instr.fill (fun i => some (i * sz, sz)) cells vs = some out ∧ (∀ c ∈ r, c.length = sz) ∧ CellsF ρ S H w r.flatten out ∧ out.size = cells.size ∧ r.length = es.length
  | [], vs, es, cells, hc, hs, hz, hl, _, r, h => by
    cases vs with
    | nil => simp only [fillRowO] at h; cases h; exact ⟨cells, rfl, hc, hz, rfl, rfl⟩
    | cons _ _ => simp at hl
  | (i, x) :: ps, vs, es, cells, hcl, hsz, hz, hl, hp, r, h => by
    cases vs with
    | nil => simp at hl
    | cons q vs =>
      obtain ⟨v, hq, hr⟩ := hp 0 (i, x) rfl
      simp at hq; subst hq
      simp only [fillRowO] at h
      split at h
      · rename_i hc
        obtain ⟨hc1, hc2, hc3⟩ := hc
        obtain ⟨d1, d2⟩ := cells_rel hc3 hr
        have hle : i * sz + sz ≤ cells.size := Nat.le_trans (mul_le hc2) hsz
        have hpl : (put cells.toList (i * sz) v.cells.toList).length = cells.toList.length := put_length _ _ _ (by simp; omega)
        have hfl := flat_len hcl
        have hnl : ∀ c ∈ es.set i (cellsOf x), c.length = sz := fun c hcm => by
          rcases List.mem_or_eq_of_mem_set hcm with h | rfl
          · exact hcl c h
          · exact hc1
        have hnew : CellsF ρ S H w (es.set i (cellsOf x)).flatten (put cells.toList (i * sz) v.cells.toList).toArray := by
          rw [flat_set hcl hc2 hc1]
          intro k y hk
          have := mul_le (sz := sz) hc2
          rw [put_get _ _ _ (by omega)] at hk
          have hg := put_get cells.toList (i * sz) v.cells.toList (by simp; omega) k
          by_cases h1 : k < i * sz
          · rw [if_pos h1] at hk hg
            obtain ⟨a, b, c, d, e⟩ := hz k y hk
            exact ⟨a, b, by rw [List.getElem?_toArray, hg]; simpa using c, d, e⟩
          · rw [if_neg h1] at hk hg
            by_cases h2 : k < i * sz + (cellsOf x).length
            · rw [if_pos h2] at hk
              rw [if_pos (by simp; omega)] at hg
              obtain ⟨b, c, d, e⟩ := d2 _ y hk
              refine ⟨?_, b, by rw [List.getElem?_toArray, hg]; simpa using c, d, e⟩
              rw [solid, List.all_eq_true] at hc3
              exact hc3 y (List.mem_of_getElem? hk)
            · rw [if_neg h2] at hk
              rw [if_neg (by simp; omega)] at hg
              obtain ⟨a, b, c, d, e⟩ := hz k y hk
              exact ⟨a, b, by rw [List.getElem?_toArray, hg]; simpa using c, d, e⟩
        obtain ⟨out, ho, h1, h2, h3, h4⟩ := fillRowO_rel ps vs _ _ hnl (by simp only [List.length_set, List.size_toArray, hpl]; simpa using hsz) hnew (by simpa using hl) (fun k p hk => by
          obtain ⟨v', h1, h2⟩ := hp (k + 1) p (by simpa using hk)
          exact ⟨v', by simpa using h1, h2⟩) r h
        refine ⟨out, ?_, h1, h2, by rw [h3]; simpa using hpl, by rw [h4]; simp⟩
        simp only [Instr.fill]
        rw [if_neg (by simp; omega), fold_cells _ _ _ (by omega)]
        exact ho
      · cases h

theorem buildSlO_rel {N : Nat → Prop} {t e : TypeId} (ht : P.underlying t = some (.slice e)) (he : szOf P e ≠ 0) {z : List D} (hz : zeroDs P e = some z) (hzl : z.length = szOf P e) {len : Nat} (hlim : len * szOf P e ≤ 2 ^ 24)
    (hi : Inv ρ S H w) {nm : Nat} (hN : N nm) (hno : ∀ m p, hget H m = some p → m ≠ nm → nm ∉ refsO p) {ps : List (Nat × AV)} {parts : Array (Nat × Value)} (hl : ps.length = parts.size) (hnr : nm ∉ refsL (ps.map (·.2)))
    (hp : ∀ (k : Nat) (p : Nat × AV), ps[k]? = some p → ∃ v, parts[k]? = some (p.1, v) ∧ RelA ρ S H w p.2 v)
    {es : List (List AV)} (h : fillRowO (szOf P e) (List.replicate len ((z.map norm).map .d)) ps = some es) :
    ∃ w' y, (Instr.buildSlice t len parts).run P w = .ok y w' ∧ ∃ ρ', Step N ρ S H w ρ' S (hset H nm (.oar (szOf P e) es)) w' ∧
      RelA ρ' S (hset H nm (.oar (szOf P e) es)) w' (.os nm len 0 len) y := by
  have h0 : 0 < szOf P e := Nat.pos_of_ne_zero he
  obtain ⟨i, zv, hinf, hzv, hzlen, _⟩ := zeroDs_rel hz
  let zc : Array Value := if len * szOf P e = 0 then #[] else zv.cells
  have hrow0 : RowAt S w (szOf P e) (List.replicate len (z.map norm)) ((Array.range (len * szOf P e)).map (fun k => zc[k % zc.size]!)) := by
    refine zeros_row hz h0 hzl S w len hinf hzv _ fun k hk => ?_
    have : ¬ len * szOf P e = 0 := by omega
    simp [zc, this]
  have hrl : ∀ c ∈ List.replicate len ((z.map norm).map AV.d), c.length = szOf P e := fun c hc => by
    rw [List.eq_of_mem_replicate hc]; simpa using hzl
  have hcells0 : CellsF ρ S H w (List.replicate len ((z.map norm).map AV.d)).flatten ((Array.range (len * szOf P e)).map (fun k => zc[k % zc.size]!)) := by
    intro k x hk
    obtain ⟨i', c, j, e1, e2, rfl⟩ := flat_at hrl hk
    rw [List.getElem?_replicate] at e1
    split at e1
    · rename_i hlt
      cases e1
      obtain ⟨d, hd, rfl⟩ := relA_map_d e2
      obtain ⟨v, hv, hrv⟩ := (hrow0.2 i' (z.map norm) (by rw [List.getElem?_replicate, if_pos hlt])).2 j d hd
      exact ⟨rfl, v, hv, hrv.flat, .d _ _ hrv⟩
    · cases e1
  obtain ⟨out, ho, hol, hocells, hosz, hesl⟩ := fillRowO_rel ps parts.toList _ _ hrl (by simp) hcells0 (by simpa using hl) (fun k p hk => by
    obtain ⟨v, h1, h2⟩ := hp k p hk
    exact ⟨v, by simpa using h1, h2⟩) es h
  have hes : es.length = len := by rw [hesl]; simp
  -- the names in the row are the parts'
  have hrefs : ∀ (k : Nat) (x : AV), es.flatten[k]? = some x → nm ∉ refs x := by
    have key : ∀ (ps : List (Nat × AV)) (es0 es : List (List AV)), nm ∉ refsL (ps.map (·.2)) → (∀ c ∈ es0, ∀ x ∈ c, nm ∉ refs x) → fillRowO (szOf P e) es0 ps = some es → ∀ c ∈ es, ∀ x ∈ c, nm ∉ refs x := by
      intro ps
      induction ps with
      | nil => intro es0 es _ h0 h; simp only [fillRowO] at h; cases h; exact h0
      | cons p ps ih =>
        intro es0 es hn h0 h
        obtain ⟨i, x⟩ := p
        simp only [fillRowO] at h
        simp only [List.map_cons, refsL, List.mem_append, not_or] at hn
        split at h
        · refine ih _ _ hn.2 (fun c hc y hy => ?_) h
          rcases List.mem_or_eq_of_mem_set hc with hc | rfl
          · exact h0 c hc y hy
          · obtain ⟨j, hj, rfl⟩ := List.getElem_of_mem hy
            intro hm
            apply hn.1
            cases x with
            | agg cs => exact refsL_mem (List.getElem?_eq_getElem hj) nm hm
            | _ =>
              simp only [cellsOf] at hj hm ⊢
              have : j = 0 := by simp at hj; omega
              subst this
              exact hm
        · cases h
    intro k x hk
    obtain ⟨c, hc, hx⟩ := List.mem_flatten.1 (List.mem_of_getElem? hk)
    exact key ps _ es hnr (fun c hc y hy => by rw [List.eq_of_mem_replicate hc] at hy; simp only [List.map_map, List.mem_map] at hy; obtain ⟨d, _, rfl⟩ := hy; simp [refs]) h c hc x hx
  refine ⟨{ w with heap := w.heap.push (.cells out e) }, .slice (some ⟨w.heap.size, 0, none⟩) len len, ?_, upd ρ nm w.heap.size, ?_, ?_⟩
  · unfold Instr.buildSlice
    simp only [Sem.run_bind, run_underlying ht, Result.andThen_ok, run_size he]
    rw [if_neg (by omega)]
    have fin : ∀ q : Array Value, q = zc → (match Instr.fill (fun i => some (i * szOf P e, szOf P e)) (Array.map (fun x => q[x % q.size]!) (Array.range (len * szOf P e))) parts.toList with
          | some cells => do
            let a ← newRow e cells
            pure (Value.slice (some a) len len)
          | _ => stuck "buildSlice: a part of the wrong size" : Sem Value).run P w = .ok (.slice (some ⟨w.heap.size, 0, none⟩) len len) { w with heap := w.heap.push (.cells out e) } := by
      intro q hq
      subst hq
      rw [ho]
      simp [newRow]
    by_cases hl0 : len * szOf P e = 0
    · rw [if_pos hl0]
      simp only [Sem.run_bind, Sem.run_pure, Result.andThen_ok]
      exact fin #[] (by simp [zc, hl0])
    · rw [if_neg hl0]
      simp only [Sem.run_bind, run_zero hinf hzv, Sem.run_pure, Result.andThen_ok]
      exact fin zv.cells (by simp [zc, hl0])
  · refine step_push hi nm (.oar (szOf P e) es) (.cells out e) _ rfl hN hno fun hrel _ hq => ?_
    refine oar_mk h0 hol hq (by rw [hosz, hes]; simp) (G := fun _ _ => False) ⟨fun _ _ _ h => h, fun _ _ _ _ _ h => h.elim⟩ fun k x hk => ?_
    obtain ⟨hfa, v, hv, hfv, hr⟩ := hocells k x hk
    exact ⟨v, hv, hfv, .solid (hrel x v (hrefs k x hk) hr) hfa⟩
  · refine os_newO (sz := szOf P e) (cs := out) (T := e) (by rw [upd_self]) (by simp) (by simp [rowsOf, hes]) (Nat.le_refl _) id ?_ (hget_set_self ..)
    rw [hosz]; simp

/-! ### loads that open -/
theorem aload_ow {sz : Nat} {ag : Bool} {x : AV} {t : O} (h : aload H sz ag x = some (.ow t)) : ag = false := by
  cases ag with
  | false => rfl
  | true =>
    exfalso
    have mk : ∀ cs, mkVal true cs ≠ some (.ow t) := fun cs e => by simp [mkVal] at e
    cases x <;> simp only [aload] at h <;> (try cases h)
    · split at h
      · obtain ⟨_, _, h⟩ := Option.bind_eq_some_iff.1 h; exact mk _ h
      · cases h
    · split at h
      · split at h
        · obtain ⟨_, _, h⟩ := Option.bind_eq_some_iff.1 h
          obtain ⟨_, _, h⟩ := Option.bind_eq_some_iff.1 h; exact mk _ h
        · cases h
      · split at h
        · obtain ⟨_, _, h⟩ := Option.bind_eq_some_iff.1 h
          obtain ⟨_, _, h⟩ := Option.bind_eq_some_iff.1 h; exact mk _ h
        · cases h
      · split at h
        · obtain ⟨_, _, h⟩ := Option.bind_eq_some_iff.1 h
          obtain ⟨_, _, h⟩ := Option.bind_eq_some_iff.1 h; exact mk _ h
        · cases h
      · cases h
    · obtain ⟨_, _, h⟩ := Option.bind_eq_some_iff.1 h; exact mk _ h

theorem mkVal_one {cs : List AV} {v : AV} (h : mkVal false cs = some v) : cs = [v] := by
  unfold mkVal at h
  simp only [Bool.false_eq_true, if_false] at h
  split at h
  · cases h; rfl
  · cases h

theorem mkVal_d {ds : List D} {t : O} (h : mkVal false (ds.map AV.d) = some (.ow t)) : False := by
  have := mkVal_one h
  cases ds with
  | nil => simp at this
  | cons a r => simp at this

/-- where a loaded cell stands -/
theorem open_rel {N : Nat → Prop} {deep : Bool} {nm : Nat} (hi : Inv ρ S H w) {sz : Nat} {ag : Bool} {x : AV} {y : Value} (hx : RelA ρ S H w x y) {t : O} (hl : aload H sz ag x = some (.ow t)) {v : AV} {o : AObj}
    (hu : unfold1 deep nm t = some (v, o)) {u : Upd} (hp : putAt H v x = some u) (hN : N nm) (hNx : ∀ l ∈ refs x, ¬ N l ∧ l ≠ nm) (hno : ∀ m q, hget H m = some q → m ≠ nm → nm ∉ refsO q) :
    ∃ a z, y = .pointer (some a) ∧ w.cell? a = some z ∧ ∃ ρ', Step N ρ S H w ρ' S (applyU H (u ++ [(nm, o)])) w ∧ RelA ρ' S (applyU H (u ++ [(nm, o)])) w v z := by
  have hag := aload_ow hl
  subst hag
  cases x with
  | pv l j =>
    simp only [putAt] at hp
    split at hp
    · rename_i cs hcs
      cases hp
      simp only [aload, hcs] at hl
      obtain ⟨ds, hds, hv⟩ := Option.bind_eq_some_iff.1 hl
      have := mkVal_one hv
      subst this
      obtain ⟨hdl, hcut⟩ := cut_get hds
      have hcj : cs[j]? = some (.ow t) := by simpa using (hcut 0 (.ow t) rfl).1
      obtain ⟨hNl, hne⟩ := hNx l (by simp [refs])
      obtain ⟨vs, T, h1, h2, G, hG, h3⟩ := hi.obj l _ hcs
      obtain ⟨z', hz', hfl, hr⟩ := h3 j _ hcj
      have hjl := (List.getElem?_eq_some_iff.1 hcj).1
      obtain ⟨b, K, hb, hK, hfv, hnow, hun⟩ := unfold_rel hu hr
      cases hx with
      | pv _ _ _ _ hpp =>
        refine ⟨_, z', hpp ⟨cs, hcs⟩, by rw [cell_at h1]; exact hz', ?_⟩
        obtain ⟨ρ', r1, comp, st⟩ := open_core (N := N) (ol' := .var (cs.set j v)) (F := G j) (K := K) (b := b) (o := o) hi (fun e => hne e.symm) hcs rfl trivial (fun c hc => hG.1 j c hjl hc) hb hK hN hNl hno fun ρ' H' hr' hg' hc' => by
          obtain ⟨hv1, ho1⟩ := hun ρ' H' hr' hg'
          refine ⟨⟨vs, T, h1, by simpa using h2, fun i c => i ≠ j ∧ G i c, ⟨fun i c hi' hc => ⟨hG.1 i c (by simpa using hi') hc.2, fun q => hc.1 (hG.2 i j c (by simpa using hi') hjl hc.2 q)⟩, fun i i' c hi' hii hc hcc => hG.2 i i' c (by simpa using hi') (by simpa using hii) hc.2 hcc.2⟩, fun i q hq => ?_⟩, ho1⟩
          rw [List.getElem?_set] at hq
          by_cases e : j = i
          · subst e
            rw [if_pos rfl, if_pos hjl] at hq
            cases hq
            exact ⟨z', hz', hfl, .of hv1 hnow⟩
          · rw [if_neg e] at hq
            obtain ⟨y', hy', hfy, hry⟩ := h3 i q hq
            exact ⟨y', hy', hfy, hry.keep (fun _ h => h) (fun _ _ => rfl) (.refl w) (fun _ _ => rfl) (fun c h => ⟨fun q => e q.symm, h⟩) fun m hm => hc' m fun em => hno l _ hcs hne (em ▸ refsL_mem hq m hm)⟩
        exact ⟨ρ', st, (hun ρ' _ r1 (hget_set_self ..)).1⟩
    · cases hp
  | pa l n i j =>
    simp only [putAt] at hp
    split at hp
    · rename_i zz es hes
      obtain ⟨c, hci, h⟩ := Option.map_eq_some_iff.1 hp
      cases h
      simp only [aload, hes] at hl
      split at hl
      · rename_i hn
        obtain ⟨c', hc', hl⟩ := Option.bind_eq_some_iff.1 hl
        rw [hci] at hc'; cases hc'
        obtain ⟨ds, hds, hv⟩ := Option.bind_eq_some_iff.1 hl
        have := mkVal_one hv
        subst this
        obtain ⟨hdl, hcut⟩ := cut_get hds
        have hcj : c[j]? = some (.ow t) := by simpa using (hcut 0 (.ow t) rfl).1
        obtain ⟨hNl, hne⟩ := hNx l (by simp [refs])
        have hesne : es ≠ [] := by intro e; subst e; simp at hci
        have hlv : isLive (.oar zz es) = true := by simpa [isLive] using hesne
        obtain ⟨hpos, hrl, vs, T, h1, h2, G, hG, h3⟩ := oar_cells (hi.obj l _ hes) hesne
        have hcl := hrl c (List.mem_of_getElem? hci)
        have hk := flat_get hrl hci hcj
        have hkl := row_lt hci hcl (List.getElem?_eq_some_iff.1 hcj).1
        obtain ⟨z', hz', hfl, hr⟩ := h3 _ _ hk
        obtain ⟨b, K, hb, hK, hfv, hnow, hun⟩ := unfold_rel hu hr
        have hil := (List.getElem?_eq_some_iff.1 hci).1
        cases hx with
        | pa _ _ _ _ _ _ hpp =>
          refine ⟨_, z', (hpp zz n (cnt_oar hes hn)).2 rfl, by rw [cell_at h1]; exact hz', ?_⟩
          have hcs : (c.set j v).length = zz := by simpa using hcl
          have hflat : (es.set i (c.set j v)).flatten = es.flatten.set (i * zz + j) v := by
            rw [flat_set hrl hil hcs]
            apply List.ext_getElem?
            intro k
            have hfl' := flat_len hrl
            have := mul_le (sz := zz) hil
            have hset := List.getElem?_set (l := es.flatten) (i := i * zz + j) (j := k) (a := v)
            rw [put_get _ _ _ (by omega), hset]
            have hjz : j < zz := by rw [← hcl]; exact (List.getElem?_eq_some_iff.1 hcj).1
            by_cases e1 : k < i * zz
            · rw [if_pos e1, if_neg (by omega)]
            · rw [if_neg e1]
              by_cases e2 : k < i * zz + (c.set j v).length
              · rw [if_pos e2, List.getElem?_set]
                by_cases e3 : j = k - i * zz
                · rw [if_pos e3, if_pos (by omega), if_pos (by omega), if_pos (by omega)]
                · rw [if_neg e3, if_neg (by omega)]
                  have := flat_get hrl hci (List.getElem?_eq_getElem (l := c) (i := k - i * zz) (by omega))
                  rw [show i * zz + (k - i * zz) = k by omega] at this
                  rw [this, List.getElem?_eq_getElem]
              · rw [if_neg e2, if_neg (by omega)]
          obtain ⟨ρ', r1, comp, st⟩ := open_core (N := N) (ol' := .oar zz (es.set i (c.set j v))) (F := G (i * zz + j)) (K := K) (b := b) (o := o) hi (fun e => hne e.symm) hes hlv ⟨rfl, by simp⟩ (fun q hq => hG.1 _ q hkl hq) hb hK hN hNl hno fun ρ' H' hr' hg' hc' => by
            obtain ⟨hv1, ho1⟩ := hun ρ' H' hr' hg'
            refine ⟨oar_mk hpos (fun d hd => ?_) h1 (by simpa using h2) (G := fun k q => k ≠ i * zz + j ∧ G k q) ⟨fun k q hk' hq => ⟨hG.1 k q (by simpa using hk') hq.2, fun qq => hq.1 (hG.2 k _ q (by simpa using hk') hkl hq.2 qq)⟩, fun k k' q hk' hkk hq hqq => hG.2 k k' q (by simpa using hk') (by simpa using hkk) hq.2 hqq.2⟩ fun k q hq => ?_, ho1⟩
            · rcases List.mem_or_eq_of_mem_set hd with h | rfl
              · exact hrl d h
              · exact hcs
            · rw [hflat, List.getElem?_set] at hq
              by_cases e : i * zz + j = k
              · subst e
                rw [if_pos rfl, if_pos (by rw [flat_len hrl]; exact hkl)] at hq
                cases hq
                exact ⟨z', hz', hfl, .of hv1 hnow⟩
              · rw [if_neg e] at hq
                obtain ⟨y', hy', hfy, hry⟩ := h3 k q hq
                exact ⟨y', hy', hfy, hry.keep (fun _ h => h) (fun _ _ => rfl) (.refl w) (fun _ _ => rfl) (fun q h => ⟨fun qq => e qq.symm, h⟩) fun m hm => hc' m fun em => hno l _ hes hne (em ▸ refsLL_flat hq m hm)⟩
          exact ⟨ρ', st, (hun ρ' _ r1 (hget_set_self ..)).1⟩
      · cases hl
    · cases hp
  | _ => simp [putAt] at hp

theorem load_one {t : TypeId} (hg : aggOf P t = some false) {a : Addr} {z : Value} (hz : w.cell? a = some z) : (Instr.loadAt t (.pointer (some a))).run P w = .ok z w := by
  simp only [Instr.loadAt, Instr.sureAddr, Sem.run_bind, Sem.run_pure, Result.andThen_ok]
  unfold loadVar
  simp only [Sem.run_bind, run_agg hg, Result.andThen_ok]
  simp [hz]

/-! ### arrays -/
theorem iarr_rel {t e : TypeId} {n : Nat} (ht : P.underlying t = some (.array n e)) (he : szOf P e ≠ 0) {x i v : AV} {y q : Value} (hx : RelA ρ S H w x y) (hq : RelA ρ S H w i q) (hl : liveA H x = true)
    (h : aiarr n (szOf P e) x i = some v) : ∃ z, (Instr.indexAt t y q).run P w = .ok z w ∧ RelA ρ S H w v z := by
  unfold aiarr at h
  split at h
  · rename_i l j k m
    have := relA_int hq; subst this
    split at h
    · rename_i hc
      cases h
      cases hx with
      | pv _ _ _ _ hp =>
        have hv := liveA_var hl
        have hp := hp hv
        subst hp
        refine ⟨.pointer (some ⟨ρ l, j + m.toNat * szOf P e, none⟩), ?_, .pv _ _ _ trivial fun _ => rfl⟩
        simp only [Instr.indexAt, Instr.sureAddr, Sem.run_bind, asIntOf, Sem.run_pure, Result.andThen_ok, run_underlying ht, hc.1, hc.2, and_self, if_true, run_size he, addr_add]
    · cases h
  · cases h

theorem index_rel {t e : TypeId} {n : Nat} (ht : P.underlying t = some (.array n e)) (he : szOf P e ≠ 0) {ag : Bool} (hg : aggOf P e = some ag) {cs : List AV} {k : IntKind} {m : Int} {y q : Value} (hx : RelA ρ S H w (.agg cs) y) (hq : RelA ρ S H w (.d (.int k m)) q)
    (hm : 0 ≤ m ∧ m < n) {v : AV} (h : (cut cs (m.toNat * szOf P e) (szOf P e)).bind (mkVal ag) = some v) : ∃ z, (Instr.index t y q).run P w = .ok z w ∧ RelA ρ S H w v z := by
  have := relA_int hq; subst this
  obtain ⟨ds, hds, hmk⟩ := Option.bind_eq_some_iff.1 h
  obtain ⟨vs, hvs, _⟩ := agg_cells hx
  subst hvs
  obtain ⟨z, hz', hrel⟩ := part_rel (P := P) rfl he hg hx hds hmk
  refine ⟨z, ?_, hrel⟩
  simp only [Instr.index, Sem.run_bind, asIntOf, Sem.run_pure, Result.andThen_ok, run_underlying ht, hm, and_self, if_true, run_size he]
  exact hz'

theorem buildA_rel {t e : TypeId} {n : Nat} (ht : P.underlying t = some (.array n e)) {zs : List D} (hz : zeroDs P t = some zs) (he : szOf P e ≠ 0)
    {ps : List (Nat × Nat × AV)} {parts : Array (Nat × Value)} (hl : ps.length = parts.size)
    (hp : ∀ (k : Nat) (p : Nat × Nat × AV), ps[k]? = some p → ∃ i v, parts[k]? = some (i, v) ∧ p.1 = i * szOf P e ∧ p.2.1 = szOf P e ∧ RelA ρ S H w p.2.2 v)
    {r : List AV} (h : fillCells (zs.map .d) ps = some r) : ∃ y, (Instr.build t parts).run P w = .ok y w ∧ RelA ρ S H w (.agg r) y := by
  obtain ⟨i, z, hi, hzz, hlen, hcell⟩ := zeroDs_rel hz
  have hz0 : CellsRel ρ S H w (zs.map .d) z.cells := by
    refine ⟨by simpa using hlen, fun k x hk => ?_⟩
    obtain ⟨y, hy, rfl⟩ := relA_map_d hk
    obtain ⟨v, hv, hc⟩ := hcell k y hy
    exact ⟨v, hv, (cvD_rel hc S w).flat, .d _ _ (cvD_rel hc S w)⟩
  obtain ⟨out, ho, hr⟩ := fill_rel (fun i => some (i * szOf P e, szOf P e)) ps parts.toList (zs.map .d) z.cells hz0 (by simpa using hl) (fun k p hk => by
    obtain ⟨i, v, h1, h3, h4, h5⟩ := hp k p hk
    exact ⟨i, v, by simpa using h1, by simp [h3, h4], h5⟩) r h
  refine ⟨.agg out, ?_, hr.agg⟩
  unfold Instr.build
  simp only [Sem.run_bind, run_zero hi hzz, Result.andThen_ok, run_underlying ht, run_size he]
  rw [ho]
  rfl

end
end Bz

/- Rows that lead to something, lent as data; what comes back sees nothing of them. -/
namespace Bz
open Go

section
variable {P : Program} {w : World} {ρ : Nm} {S : Nat → Prop} {H : Heap}

theorem viewOs_get : ∀ {cs : List O} {ds : List D}, viewOs cs = some ds → ds.length = cs.length ∧ ∀ (j : Nat) (d : D), ds[j]? = some d → ∃ t, cs[j]? = some t ∧ viewO t = some d
  | [], ds, h => by simp only [viewOs] at h; cases h; simp
  | c :: cs, ds, h => by
    simp only [viewOs] at h
    split at h
    · rename_i x xs h1 h2
      cases h
      obtain ⟨g1, g2⟩ := viewOs_get h2
      refine ⟨by simp [g1], fun j d hj => ?_⟩
      cases j with
      | zero => simp at hj; subst hj; exact ⟨c, rfl, h1⟩
      | succ j => simp at hj; simpa using g2 j d hj
    · cases h
theorem viewOss_get : ∀ {es : List (List O)} {ds : List (List D)}, viewOss es = some ds → ds.length = es.length ∧ ∀ (i : Nat) (d : List D), ds[i]? = some d → ∃ c, es[i]? = some c ∧ viewOs c = some d
  | [], ds, h => by simp only [viewOss] at h; cases h; simp
  | c :: cs, ds, h => by
    simp only [viewOss] at h
    split at h
    · rename_i x xs h1 h2
      cases h
      obtain ⟨g1, g2⟩ := viewOss_get h2
      refine ⟨by simp [g1], fun j d hj => ?_⟩
      cases j with
      | zero => simp at hj; subst hj; exact ⟨c, rfl, h1⟩
      | succ j => simp at hj; simpa using g2 j d hj
    · cases h
theorem viewAs_get : ∀ {cs : List AV} {ds : List D}, viewAs cs = some ds → ds.length = cs.length ∧ ∀ (j : Nat) (d : D), ds[j]? = some d → ∃ t, cs[j]? = some t ∧ viewA t = some d
  | [], ds, h => by simp only [viewAs] at h; cases h; simp
  | c :: cs, ds, h => by
    simp only [viewAs] at h
    split at h
    · rename_i x xs h1 h2
      cases h
      obtain ⟨g1, g2⟩ := viewAs_get h2
      refine ⟨by simp [g1], fun j d hj => ?_⟩
      cases j with
      | zero => simp at hj; subst hj; exact ⟨c, rfl, h1⟩
      | succ j => simp at hj; simpa using g2 j d hj
    · cases h
theorem viewAss_get : ∀ {es : List (List AV)} {ds : List (List D)}, viewAss es = some ds → ds.length = es.length ∧ ∀ (i : Nat) (d : List D), ds[i]? = some d → ∃ c, es[i]? = some c ∧ viewAs c = some d
  | [], ds, h => by simp only [viewAss] at h; cases h; simp
  | c :: cs, ds, h => by
    simp only [viewAss] at h
    split at h
    · rename_i x xs h1 h2
      cases h
      obtain ⟨g1, g2⟩ := viewAss_get h2
      refine ⟨by simp [g1], fun j d hj => ?_⟩
      cases j with
      | zero => simp at hj; subst hj; exact ⟨c, rfl, h1⟩
      | succ j => simp at hj; simpa using g2 j d hj
    · cases h

/-- a row, seen -/
theorem row_view {S' : Nat → Prop} {b sz len cap : Nat} {rs : List (List D)} {vs : Array Value} {T : TypeId} {fr : Nat × Nat} (hb : w.heap[b]? = some (.cells vs T fr)) (hS : S' b) (hlen : len ≤ rs.length) (hcap : len ≤ cap)
    (hl : ∀ c ∈ rs, c.length = sz) (hc : ∀ (i : Nat) (c : List D), rs[i]? = some c → ∀ (j : Nat) (x : D), c[j]? = some x → ∃ v, vs[i * sz + j]? = some v ∧ RelD S' w x v) :
    RelD S' w (.vs false (rs.take len)) (.slice (some ⟨b, 0, none⟩) len cap) := by
  have hlt : (rs.take len).length = len := by simp; omega
  have key := RelD.vs (S := S') (w := w) ⟨b, 0, none⟩ sz cap (rs.take len) (fun i j => (vs[i * sz + j]?).getD undef)
  rw [hlt] at key
  have get : ∀ (i : Nat) (c : List D), (rs.take len)[i]? = some c → rs[i]? = some c := fun i c h => by
    rw [List.getElem?_take] at h
    split at h
    · exact h
    · cases h
  refine key hcap (fun c h => hl c (List.mem_of_mem_take h)) (fun _ => hS) (fun i j c hi hj => ?_) (fun i j c x hi hj => ?_)
  · have hcl := hl c (List.mem_of_getElem? (get i c hi))
    obtain ⟨v, hv, _⟩ := hc i c (get i c hi) j c[j] (List.getElem?_eq_getElem (by omega))
    rw [addr_add, Nat.zero_add, cell_at hb, hv]; rfl
  · obtain ⟨v, hv, hr⟩ := hc i c (get i c hi) j x hj
    rw [hv]; exact hr

theorem viewO_rel {S' : Nat → Prop} {F : Nat → Prop} {t : O} {v : Value} (h : RelO S w F t v) (hS : ∀ b, S b → S' b) (hF : ∀ b, F b → S' b) : ∀ {d : D}, viewO t = some d → RelD S' w d v := by
  induction h with
  | d F x v h => intro d hd; simp only [viewO] at hd; cases hd; exact h.norm.mono hS fun _ _ => rfl
  | own => intro d hd; simp [viewO] at hd
  | osl F b T sz len cap es vs xs G h1 h2 h3 h4 h5 h6 h7 h8 h9 h10 h11 h12 ih =>
    intro d hd
    simp only [viewO] at hd
    split at hd
    · rename_i rs hrs
      cases hd
      obtain ⟨g1, g2⟩ := viewOss_get hrs
      refine row_view (sz := sz) h1 (hF b h2) (by omega) (by omega) (fun c hc => ?_) (fun i c hi j x hj => ?_)
      · obtain ⟨i, hi, rfl⟩ := List.getElem_of_mem hc
        obtain ⟨e, he, hv⟩ := g2 i _ (List.getElem?_eq_getElem hi)
        rw [(viewOs_get hv).1]; exact h8 e (List.mem_of_getElem? he)
      · obtain ⟨e, he, hv⟩ := g2 i c hi
        obtain ⟨t, ht, hx⟩ := (viewOs_get hv).2 j x hj
        have hlt := row_lt he (h8 e (List.mem_of_getElem? he)) (List.getElem?_eq_some_iff.1 ht).1
        exact ⟨_, (h9 i j e t he ht).1, ih i j e t he ht (fun c hc => hF c (h10 _ c hlt hc).1) hx⟩
    · cases hd

/-- all that is known, and all that somebody's own -/
def All (ρ : Nm) (S : Nat → Prop) (H : Heap) : Nat → Prop := fun b => S b ∨ ∃ l, Live H l ∧ Ftp ρ l b

theorem viewA_rel {G : Nat → Prop} {S' : Nat → Prop} {x : AV} {v : Value} (h : CellR ρ S H w G x v) (hS : ∀ b, S b → S' b) (hG : ∀ b, G b → S' b) {d : D} (hd : viewA x = some d) : RelD S' w d v := by
  cases x with
  | d y =>
    simp only [viewA] at hd; cases hd
    cases h with
    | d _ _ h => exact h.norm.mono hS fun _ _ => rfl
  | ow t => exact viewO_rel h hS hG hd
  | _ => simp [viewA] at hd

theorem arrs_cnt {l sz m : Nat} (hi : Inv ρ S H w) (hm : m ≠ 0) (hc : CntD H l sz m) : All ρ S H (ρ l) := by
  obtain ⟨es, h, hl⟩ := hc
  have hne : es ≠ [] := by intro e; subst e; exact hm hl.symm
  rcases h with h | h
  · exact .inr ⟨l, ⟨_, h, by simpa [isLive] using hne⟩, .inl rfl⟩
  · exact .inl ((hi.obj l _ h).2 hne).1

theorem vwDO_rel (hi : Inv ρ S H w) {v : AV} {x : D} (h : vwDO H v = some x) {y : Value} (hr : RelA ρ S H w v y) : RelD (All ρ S H) w x y := by
  have old : vwD H v = some x → RelD (All ρ S H) w x y := fun h => vwD_rel hi h hr (fun _ h => .inl h) fun l _ ⟨sz, m, hm, hc⟩ => arrs_cnt hi hm hc
  unfold vwDO at h
  split at h
  · rename_i l n len
    split at h
    · rename_i sz es hes
      split at h
      · rename_i hc
        split at h
        · rename_i rs hrs
          cases h
          obtain ⟨g1, g2⟩ := viewAss_get hrs
          cases hr with
          | os _ _ _ _ _ _ ho =>
            rcases (ho sz n (cnt_oar hes hc.1)).2 rfl with ⟨h0, hl0, bb, rfl⟩ | ⟨⟨hn, hct⟩, a, cap, vs', T', fr, rfl, hle, ha, hblk, hbsz⟩
            · have : rs.take len = [] := by rw [hl0]; simp
              rw [this]; exact .vnil _ _
            · have hne : es ≠ [] := by intro e; subst e; exact hn hc.1.symm
              obtain ⟨hpos, hrl, vs, T, hb, hvs, G, hG, hcl⟩ := oar_cells (hi.obj l _ hes) hne
              rw [hblk] at hb; cases hb
              have hcap := hct _ _ _ rfl
              have ha' : a = ⟨ρ l, 0, none⟩ := by simpa using ha.resolve_left (by omega)
              subst ha'
              have hL : Live H l := ⟨_, hes, by simpa [isLive] using hne⟩
              refine row_view (sz := sz) hblk (.inr ⟨l, hL, .inl rfl⟩) (by omega) hle (fun c hcm => ?_) (fun i c hic j x hj => ?_)
              · obtain ⟨i, hi', rfl⟩ := List.getElem_of_mem hcm
                obtain ⟨e, he, hv⟩ := g2 i _ (List.getElem?_eq_getElem hi')
                rw [(viewAs_get hv).1]; exact hrl e (List.mem_of_getElem? he)
              · obtain ⟨e, he, hv⟩ := g2 i c hic
                obtain ⟨t, ht, hx⟩ := (viewAs_get hv).2 j x hj
                obtain ⟨z, hz, hfl, hr⟩ := hcl _ t (flat_get hrl he ht)
                have hlt := row_lt he (hrl e (List.mem_of_getElem? he)) (List.getElem?_eq_some_iff.1 ht).1
                exact ⟨z, hz, viewA_rel hr (fun _ h => .inl h) (fun b hb => .inr ⟨l, hL, .inr (hG.1 _ b hlt hb)⟩) hx⟩
        · cases h
      · cases h
    · exact old h
  · exact old h

theorem vwDOs_get : ∀ {cs : List AV} {ds : List D}, vwDOs H cs = some ds → ds.length = cs.length ∧ ∀ (j : Nat) (d : D), ds[j]? = some d → ∃ c, cs[j]? = some c ∧ vwDO H c = some d
  | [], ds, h => by simp only [vwDOs] at h; cases h; simp
  | c :: cs, ds, h => by
    simp only [vwDOs] at h
    split at h
    · rename_i x xs h1 h2
      cases h
      obtain ⟨g1, g2⟩ := vwDOs_get h2
      refine ⟨by simp [g1], fun j d hj => ?_⟩
      cases j with
      | zero => simp at hj; subst hj; exact ⟨c, rfl, h1⟩
      | succ j => simp at hj; simpa using g2 j d hj
    · cases h

theorem vwO_rel (hi : Inv ρ S H w) {v x : AV} (h : vwO H v = some x) {y : Value} (hr : RelA ρ S H w v y) {ρ' : Nm} {H' : Heap} : RelA ρ' (All ρ S H) H' w x y := by
  cases v with
  | agg cs =>
    simp only [vwO] at h
    obtain ⟨ds, hds, rfl⟩ := Option.map_eq_some_iff.1 h
    obtain ⟨g1, g2⟩ := vwDOs_get hds
    cases hr with
    | agg _ vs ys h1 h2 h3 =>
      refine .agg _ vs ys (by simpa [g1] using h1) (fun i x hx => ?_) (fun i x hx => ?_)
      · obtain ⟨d, hd, rfl⟩ := relA_map_d hx
        obtain ⟨c, hc, _⟩ := g2 i d hd
        exact h2 i c hc
      · obtain ⟨d, hd, rfl⟩ := relA_map_d hx
        obtain ⟨c, hc, hv⟩ := g2 i d hd
        exact .d _ _ (vwDO_rel hi hv (h3 i c hc))
  | _ =>
    simp only [vwO] at h
    obtain ⟨d, hd, rfl⟩ := Option.map_eq_some_iff.1 h
    exact .d _ _ (vwDO_rel hi hd hr)

theorem vwsO_rel (hi : Inv ρ S H w) : ∀ {args as : List AV} {vs : List Value}, vwsO H args = some as → args.length = vs.length → (∀ (i : Nat) (x : AV), args[i]? = some x → ∃ y, vs[i]? = some y ∧ RelA ρ S H w x y) → ∀ {ρ' : Nm} {H' : Heap},
    as.length = vs.length ∧ ∀ (i : Nat) (x : AV), as[i]? = some x → ∃ y, vs[i]? = some y ∧ RelA ρ' (All ρ S H) H' w x y
  | [], as, vs, h, hl, _, ρ', H' => by simp only [vwsO] at h; cases h; exact ⟨hl, by simp⟩
  | a :: r, as, vs, h, hl, hr, ρ', H' => by
    simp only [vwsO] at h
    split at h
    · rename_i x xs h1 h2
      cases h
      cases vs with
      | nil => simp at hl
      | cons v vs =>
        obtain ⟨y, hy, hya⟩ := hr 0 a rfl
        simp at hy; subst hy
        obtain ⟨g1, g2⟩ := vwsO_rel hi (vs := vs) h2 (by simpa using hl) (fun i x hx => by simpa using hr (i + 1) x (by simpa using hx)) (ρ' := ρ') (H' := H')
        refine ⟨by simp [g1], fun i z hz => ?_⟩
        cases i with
        | zero => simp at hz; subst hz; exact ⟨v, rfl, vwO_rel hi h1 hya⟩
        | succ i => simp at hz; simpa using g2 i z hz
    · cases h

/-! ### what sees nothing -/
theorem pureD_rel {S' : Nat → Prop} {x : D} {v : Value} (h : RelD S w x v) (hp : pureD x = true) : RelD S' w x v := by
  induction h with
  | int => exact .int _ _
  | bool => exact .bool _
  | str => exact .str _
  | nilp => exact .nilp
  | nilm => exact .nilm
  | nilf => exact .nilf
  | nili => exact .nili
  | ifc t x v _ ih => exact .ifc t x v (ih (by simpa [pureD] using hp))
  | vnil t b => exact .vnil t b
  | vs a sz cap es xs h1 h2 h3 h4 h5 =>
    cases es with
    | nil => exact .vs a sz cap [] xs h1 h2 (fun h => absurd rfl h) (fun i j c hc => by simp at hc) (fun i j c x hc => by simp at hc)
    | cons c r => simp [pureD] at hp

theorem pureOs_all : ∀ {cs : List O}, pureOs cs = true → ∀ x ∈ cs, pureO x = true
  | [], _, x, hx => by simp at hx
  | c :: r, h, x, hx => by
    simp only [pureOs, Bool.and_eq_true] at h
    rcases List.mem_cons.1 hx with rfl | hx
    · exact h.1
    · exact pureOs_all h.2 x hx
theorem pureOss_all : ∀ {es : List (List O)}, pureOss es = true → ∀ c ∈ es, pureOs c = true
  | [], _, x, hx => by simp at hx
  | c :: r, h, x, hx => by
    simp only [pureOss, Bool.and_eq_true] at h
    rcases List.mem_cons.1 hx with rfl | hx
    · exact h.1
    · exact pureOss_all h.2 x hx

theorem pureO_rel {S' : Nat → Prop} {F : Nat → Prop} {t : O} {v : Value} (h : RelO S w F t v) (hp : pureO t = true) : RelO S' w F t v := by
  induction h with
  | d F x v h => exact .d _ _ _ (pureD_rel h (by simpa [pureO] using hp))
  | own F b T cs vs xs G h1 h2 h3 h4 h5 h6 h7 ih =>
    exact .own F b T cs vs xs G h1 h2 h3 h4 h5 h6 fun j x hj => ih j x hj (pureOs_all (by simpa [pureO] using hp) x (List.mem_of_getElem? hj))
  | osl F b T sz len cap es vs xs G h1 h2 h3 h4 h5 h6 h7 h8 h9 h10 h11 h12 ih =>
    exact .osl F b T sz len cap es vs xs G h1 h2 h3 h4 h5 h6 h7 h8 h9 h10 h11 fun i j c x hi hj => ih i j c x hi hj (pureOs_all (pureOss_all (by simpa [pureO] using hp) c (List.mem_of_getElem? hi)) x (List.mem_of_getElem? hj))

theorem pureC_rel {S' : Nat → Prop} {x : AV} {v : Value} (h : RelA ρ S H w x v) (hp : pureC x = true) : RelA ρ S' H w x v := by
  cases h with
  | d x v h => exact .d _ _ (pureD_rel h (by simpa [pureC] using hp))
  | ow => exact .ow _ _
  | os _ _ _ _ _ a b => exact .os _ _ _ _ _ a b
  | pv _ _ _ a b => exact .pv _ _ _ a b
  | _ => simp [pureC] at hp

theorem pureCell_rel {S' : Nat → Prop} {G : Nat → Prop} {x : AV} {v : Value} (h : CellR ρ S H w G x v) (hp : pureC x = true) : CellR ρ S' H w G x v := by
  cases x with
  | ow t => exact pureO_rel h (by simpa [pureC] using hp)
  | _ => exact pureC_rel h hp

theorem pureA_rel {S' : Nat → Prop} {x : AV} {v : Value} (h : RelA ρ S H w x v) (hp : pureA x = true) : RelA ρ S' H w x v := by
  cases h with
  | agg cs vs ys h1 h2 h3 =>
    exact .agg cs vs ys h1 h2 fun i x hx => pureC_rel (h3 i x hx) (List.all_eq_true.1 (by simpa [pureA] using hp) x (List.mem_of_getElem? hx))
  | tup cs vs ys h1 h2 h3 =>
    exact .tup cs vs ys h1 h2 fun i x hx => pureC_rel (h3 i x hx) (List.all_eq_true.1 (by simpa [pureA] using hp) x (List.mem_of_getElem? hx))
  | d x v h => exact pureC_rel (.d x v h) hp
  | ow t v => exact .ow _ _
  | os l n o k v a b => exact .os l n o k v a b
  | pv l j v a b => exact .pv l j v a b
  | _ => simp [pureA, pureC] at hp

theorem pureObj_at {S' : Nat → Prop} {K : Nat → Prop} {b : Nat} {o : AObj} (h : ObjAt ρ S H w K b o) (hp : pureObj o = true) : ObjAt ρ S' H w K b o := by
  cases o with
  | var cs =>
    obtain ⟨vs, T, e, hs, G, hG, h⟩ := h
    simp only [pureObj, List.all_eq_true] at hp
    refine ⟨vs, T, e, hs, G, hG, fun j x hj => ?_⟩
    obtain ⟨v, hv, hf, hr⟩ := h j x hj
    exact ⟨v, hv, hf, pureCell_rel hr (hp x (List.mem_of_getElem? hj))⟩
  | arr sz es =>
    simp only [pureObj, List.all_eq_true] at hp
    refine ⟨h.1, fun hne => ?_⟩
    obtain ⟨vs, T, e, h1, h2⟩ := h.2 hne
    refine ⟨vs, T, e, h1, fun i c hi => ⟨(h2 i c hi).1, fun j x hj => ?_⟩⟩
    obtain ⟨v, hv, hr⟩ := (h2 i c hi).2 j x hj
    exact ⟨v, hv, pureD_rel hr (hp c (List.mem_of_getElem? hi) x (List.mem_of_getElem? hj))⟩
  | oar sz es =>
    simp only [pureObj, List.all_eq_true] at hp
    refine ⟨h.1, h.2.1, fun hne => ?_⟩
    obtain ⟨vs, T, e, hs, G, hG, hcl⟩ := h.2.2 hne
    refine ⟨vs, T, e, hs, G, hG, fun i c hi j x hj => ?_⟩
    obtain ⟨v, hv, hf, hr⟩ := hcl i c hi j x hj
    exact ⟨v, hv, hf, pureCell_rel hr (hp c (List.mem_of_getElem? hi) x (List.mem_of_getElem? hj))⟩
  | _ => simp [pureObj] at hp

theorem acallD_sound {X : Ctx} (hC : Good P X.C) (hi : Inv ρ S H w) {f : Nat} {args : List AV} {vs : Array Value} (ha : ArgsRel ρ S H w args vs) {nm : Nat} {v : AV} {u : Upd} {nw : List Nat}
    (h : acallD X nm H f args = some (v, u, nw)) (hno : ∀ l ∈ nw, ∀ m p, hget H m = some p → m ≠ l → l ∉ refsO p) :
    Enters P f vs w (fun e w' => ∃ y, e = .returned y ∧ ∃ ρ' S', Step (fun l => l ∈ nw) ρ S H w ρ' S' (applyU H u) w' ∧ RelA ρ' S' (applyU H u) w' v y) := by
  unfold acallD at h
  split at h
  · cases h
  · rename_i as has
    split at h
    · cases h
    · rename_i rv Ho hcall
      obtain ⟨g1, g2⟩ := vwsO_rel hi (vs := vs.toList) has (by simpa using ha.1) (fun i x hx => by simpa using ha.2 i x hx) (ρ' := ρ.via fun j => ([] : List Nat).getD j 0) (H' := [])
      have hi0 : Inv (ρ.via fun j => ([] : List Nat).getD j 0) (All ρ S H) [] w := ⟨fun l o h => by simp [hget] at h, fun l l' b ⟨o, h, _⟩ => by simp [hget] at h, fun l b ⟨o, h, _⟩ => by simp [hget] at h,
        fun b hb => hb.elim (hi.dom b) fun ⟨l, hl, hf⟩ => hi.foot_lt hl hf, fun l b ⟨o, h, _⟩ => by simp [hget] at h, fun l ⟨o, h, _⟩ => by simp [hget] at h⟩
      have hrun := hC _ _ _ _ _ hcall _ (All ρ S H) w vs hi0 ⟨by simpa using g1, fun i x hx => by simpa using g2 i x hx⟩
      have hfr : ∀ {ρ' S' w'}, Step (fun l => ([] : Heap).length ≤ l) (ρ.via fun j => ([] : List Nat).getD j 0) (All ρ S H) [] w ρ' S' Ho w' → ∀ b, b < w.heap.size → w'.heap[b]? = w.heap[b]? := fun st b hb => st.frame b hb fun l ⟨o, ho, _⟩ => by simp [hget] at ho
      split at h
      · rename_i hcond
        cases h
        simp only [Bool.and_eq_true, List.isEmpty_iff] at hcond
        refine hrun.mono fun e w' ⟨y, ρ', S', he, st, hr⟩ => ⟨y, he, ρ, S, ?_, noViews_rel hcond.2 hr⟩
        have hfr := hfr st
        have hinv : Inv ρ S H w' := ⟨fun l o ho => (hi.obj l o ho).keep (fun hr => hfr _ ((hi.obj l o ho).lt hr)) (fun hl c hc => hfr c (hi.hlt l c ⟨o, ho, hl⟩ hc)) (fun _ h => h) (fun b hb => hfr b (hi.dom b hb)) st.grow fun l _ => .refl ρ H l,
          hi.inj, hi.sep, fun b hb => Nat.lt_of_lt_of_le (hi.dom b hb) st.size, fun l b hl hb => Nat.lt_of_lt_of_le (hi.hlt l b hl hb) st.size, hi.hno⟩
        exact ⟨hinv, fun _ h => h, fun _ h => .inl h, fun b hb _ => hfr b hb, st.grow, st.size, fun l b hl hf => .inr ⟨l, hl, hf⟩, fun l _ => .refl ρ H l, st.outer⟩
      · split at h
        · rename_i hcond
          simp only [Bool.and_eq_true, List.all_eq_true] at hcond
          obtain ⟨⟨hrv, hpo⟩, hok⟩ := hcond
          cases h
          refine hrun.mono fun e w' ⟨y, ρ', S', he, st, hr⟩ => ⟨y, he, ?_⟩
          have eback : backF [] nm = fun j => nm + j := by funext j; simp [backF]
          have ef : (Ho.filter fun x => decide (([] : List Nat).length ≤ x.1)) = Ho := by simp
          have st0 : Step (fun l => ([] : Heap).length ≤ l) (ρ.via fun j => ([] : List Nat).getD j 0) S [] w ρ' S Ho w' := by
            refine ⟨⟨fun l o ho => pureObj_at (st.inv.obj l o ho) (hpo _ (hget_mem ho)), st.inv.inj, fun l b hl hf hs => st.inv.sep l b hl hf (st.sub b (.inl hs)), fun b hb => Nat.lt_of_lt_of_le (hi.dom b hb) st.size, st.inv.hlt, st.inv.hno⟩,
              fun _ h => h, fun _ h => .inl h, st.frame, st.grow, st.size, st.live, st.comp, st.outer⟩
          obtain ⟨ρ2, s2, r2⟩ := unpacked (L := []) (q := []) hi List.nodup_nil rfl (fun l hl => by simp at hl) hok (fun x hx hxl m p hp hmne => by
            rw [eback] at hmne ⊢
            exact hno _ (List.mem_map.2 ⟨x, hx, rfl⟩) m p hp hmne) st0 (pureA_rel hr hrv)
          rw [eback] at s2 r2
          rw [ef] at s2
          exact ⟨ρ2, S, s2, r2⟩
        · cases h

end
end Bz

/- One operation, any. -/
namespace Bz
open Go

section
variable {P : Program} {w : World} {ρ : Nm} {S : Nat → Prop} {H : Heap} {a : Act} {next : Act → World → Prop} {Q : Exit → Act → World → Prop}

/-- what the operation hands on -/
def Hands (N : Nat → Prop) (ρ : Nm) (S : Nat → Prop) (H : Heap) (w : World) (v : AV) (u : Upd) (K : Value → World → Prop) : Prop :=
  ∀ w' y ρ' S', Step N ρ S H w ρ' S' (applyU H u) w' → RelA ρ' S' (applyU H u) w' v y → K y w'

theorem call_wp {o : Oper} {c : Call} {fo : Operand} (hop : o.op = .call c) (hcal : c.callee = .value fo) {E : List AV} (he : RelE ρ S H w E a.tmps) {g : AOpd} (hg : cvO fo = some g) {as : List AOpd} (has : cvOs c.args.toList = some as)
    {X : Ctx} (hC : Good P X.C) (hi : Inv ρ S H w) {nm : Nat} {v : AV} {u : Upd} {nw : List Nat} (h : aop X nm H (.call (aev E g) (as.map (aev E))) = some (v, u, nw))
    (hno : ∀ l ∈ nw, ∀ m p, hget H m = some p → m ≠ l → l ∉ refsO p) (hn : Hands (fun l => l ∈ nw) ρ S H w v u fun y w' => next (a.put o.dst y) w') : o.wp P a w next Q := by
  simp only [aop] at h
  split at h
  · rename_i f caps hf
    have hfr := (cvO_rel he hg).rel
    rw [hf] at hfr
    generalize hfv : a.eval fo = fv at hfr
    cases hfr with
    | fn _ _ vs ys h1 h2 h3 =>
      have har := args_rel he has
      have hrun : Enters P f (c.args.map a.eval ++ vs) w (fun e w' => ∃ y, e = .returned y ∧ ∃ ρ' S', Step (fun l => l ∈ nw) ρ S H w ρ' S' (applyU H u) w' ∧ RelA ρ' S' (applyU H u) w' v y) := by
        split at h
        · exact acallD_sound hC hi (har.append (ys := caps) (us := vs) ⟨h1, fun i x hx => ⟨ys i, h2 i x hx, h3 i x hx⟩⟩) h hno
        · exact acall_sound hC hi (har.append (ys := caps) (us := vs) ⟨h1, fun i x hx => ⟨ys i, h2 i x hx, h3 i x hx⟩⟩) h hno
      unfold Oper.wp
      have hex : (execOp a.eval o).run P w = (callFunc f (c.args.map a.eval ++ vs)).run P w := by
        unfold execOp
        rw [hop]
        simp only [resolve, hcal, hfv, Deferred.ofValue]
        simp [invoke]
      rw [hex]
      rcases hrun with ⟨hc, hrun⟩ | ⟨y, w', hrun, _, hy, ρ', S', st, hr⟩
      · rw [coded_run hc, Oper.upon_enter]
        refine hrun.mono fun e w' ⟨y, hy, ρ', S', st, hr⟩ => ?_
        subst hy
        exact hn w' y ρ' S' st hr
      · rw [hrun]
        cases hy
        exact hn w' y ρ' S' st hr
  · cases h

/-- a built-in function's operation -/
theorem args_sub {E : List AV} (he : RelE ρ S H w E a.tmps) : ∀ {xs : List Operand} {qs : List AOpd}, cvOs xs = some qs → ∀ q ∈ qs, ∀ l ∈ refs (aev E q), l ∈ refsL E
  | [], qs, h, q, hq => by simp only [cvOs] at h; cases h; simp at hq
  | x :: xs, qs, h, q, hq => by
    simp only [cvOs] at h
    split at h
    · rename_i y ys hy hys
      cases h
      rcases List.mem_cons.1 hq with rfl | hq
      · exact (cvO_rel he hy).sub
      · exact args_sub he hys q hq
    · cases h

theorem builtin_wp {o : Oper} {c : Call} {b : Builtin} (hop : o.op = .call c) (hcal : c.callee = .builtin b) {s : Sem Value}
    (hb : ∀ cs, builtin b c.argTypes o.type cs (c.args.map a.eval) = (do let v ← s; pure (.value v))) {y : Value} {w' : World} (hr : s.run P w = .ok y w')
    (hn : next (a.put o.dst y) w') : o.wp P a w next Q := by
  unfold Oper.wp
  have hex : (execOp a.eval o).run P w = .ok (.value y) w' := by
    unfold execOp
    rw [hop]
    simp only [resolve, hcal]
    simp only [Sem.run_bind, Sem.run_pure, Result.andThen_ok]
    simp only [invoke]
    rw [hb]; simp [hr]
  rw [hex]
  exact hn

theorem best_rel (mx : Bool) (argTypes : Array TypeId) (ty : TypeId) {xs : List AV} {vs : Array Value} (h : ArgsRel ρ S H w xs vs) {v : AV} {X : Ctx} {nm : Nat} {u : Upd} {nw : List Nat} (hb : aop X nm H (.best mx xs) = some (v, u, nw)) :
    u = [] ∧ ∃ y, (if mx then Builtin.max_ argTypes ty vs else Builtin.min_ argTypes ty vs).run P w = .ok y w ∧ RelA ρ S H w v y := by
  simp only [aop] at hb
  split at hb
  · rename_i k x k' y
    split at hb
    · rename_i hk
      cases hb
      obtain ⟨a, b, rfl, ha, hb⟩ := h.two
      cases relA_int ha
      cases relA_int hb
      refine ⟨rfl, ?_⟩
      cases mx with
      | true => exact ⟨_, by simp [Builtin.max_, Builtin.max2]; rfl, by simpa using rel_int k _⟩
      | false => exact ⟨_, by simp [Builtin.min_, Builtin.min2]; rfl, by simpa using rel_int k _⟩
    · cases hb
  · cases hb

theorem isNilC_iff {x : AV} (h : isNilC x = true) : x = .d (.vs true []) := by
  unfold isNilC at h
  split at h
  · rfl
  · cases h

theorem bcall_wp {o : Oper} {c : Call} {b : Builtin} (hop : o.op = .call c) (hcal : c.callee = .builtin b) {E : List AV} (he : RelE ρ S H w E a.tmps) {q : AOp} (hq : cvCall P c = some q)
    {X : Ctx} (hi : Inv ρ S H w) {nm : Nat} {v : AV} {u : Upd} {nw : List Nat} (h : aop X nm H (q.map (aev E)) = some (v, u, nw))
    (hno : ∀ l ∈ nw, l ∉ refsL E ∧ ∀ m p, hget H m = some p → m ≠ l → l ∉ refsO p) (hn : Hands (fun l => l ∈ nw) ρ S H w v u fun y w' => next (a.put o.dst y) w') : o.wp P a w next Q := by
  simp only [cvCall, hcal] at hq
  split at hq
  · rename_i x has
    obtain ⟨vx, hvs, hx⟩ := (args_rel he has).one
    have go : ∀ {k : LK} {d : TypeDesc} {t : TypeId}, c.argTypes[0]? = some t → P.underlying t = some d → lkOf k d → aop X nm H (.len k (aev E x)) = some (v, u, nw) → o.wp P a w next Q := by
      intro k d t h0 ht hd h
      simp only [aop] at h
      obtain ⟨r, hr, h⟩ := Option.map_eq_some_iff.1 h
      cases h
      split at hr
      · rename_i hl
        obtain ⟨z, hz, hrel⟩ := len_rel (P := P) (ty := o.type) h0 ht hd hi hx hl hr
        exact builtin_wp hop hcal (fun cs => by rw [hvs]; rfl) hz (hn w z ρ S (.refl hi) hrel)
      · cases hr
    split at hq <;> cases hq
    all_goals
      rename_i e
      obtain ⟨t, h0, ht⟩ := Option.bind_eq_some_iff.1 e
      refine go h0 ht ?_ h
      trivial
  · rename_i x has
    obtain ⟨vx, hvs, hx⟩ := (args_rel he has).one
    split at hq <;> cases hq
    rename_i e
    obtain ⟨t, h0, ht⟩ := Option.bind_eq_some_iff.1 e
    simp only [AOpOf.map, aop] at h
    obtain ⟨r, hr, h⟩ := Option.map_eq_some_iff.1 h
    cases h
    split at hr
    · obtain ⟨z, hz, hrel⟩ := cap_rel (P := P) (ty := o.type) h0 ht hx hr
      exact builtin_wp hop hcal (fun cs => by rw [hvs]; rfl) hz (hn w z ρ S (.refl hi) hrel)
    · cases hr
  · rename_i x y has
    obtain ⟨vx, vy, hvs, hx, hy⟩ := (args_rel he has).two
    have go : ∀ {t t2 e : TypeId} {d2 : TypeDesc}, c.argTypes[0]? = some t → c.argTypes[1]? = some t2 → P.underlying t = some (.slice e) → P.underlying t2 = some d2 → (d2 = .string ∨ ∃ e2, d2 = .slice e2) →
        szOf P e ≠ 0 → P.bytesOf e ≤ 256 → (zeroDs P e).map (·.length) = some (szOf P e) → aop X nm H (.append (szOf P e) (aev E x) (aev E y)) = some (v, u, nw) → o.wp P a w next Q := by
      intro t t2 e d2 h0 h1 ht ht2 hd2 hz hby hzd h
      obtain ⟨z, hz', hzl⟩ := Option.map_eq_some_iff.1 hzd
      simp only [aop] at h
      split at h
      · obtain ⟨ys, hys, h⟩ := Option.bind_eq_some_iff.1 h
        split at h
        · rename_i hsd
          obtain ⟨p, hp, h⟩ := Option.map_eq_some_iff.1 h
          obtain ⟨pv, pu⟩ := p
          cases h
          obtain ⟨w', r, hrun, ρ', S', st, hrel⟩ := appendO_rel (P := P) (ty := o.type) (N := fun l => l ∈ (if isNilC (aev E x) then pu.map (·.1) else [])) h0 h1 ht ht2 hd2 hz hby hz' hzl hi hx hy hys hsd hp
            (fun hxe hune => by
              rw [hxe] at hp hno ⊢
              simp only [aappendO] at hp
              split at hp
              · cases hp; exact absurd rfl hune
              · split at hp
                · cases hp
                  refine ⟨by simp [isNilC], (hno nm (by simp [isNilC])).2, fun hm => (hno nm (by simp [isNilC])).1 ?_⟩
                  exact args_sub he has y (by simp) nm hm
                · cases hp)
            (fun l n off len hxe => by rw [hxe]; simp [isNilC])
          exact builtin_wp hop hcal (fun cs => by rw [hvs]; rfl) hrun (hn w' r ρ' S' st hrel)
        · cases h
      obtain ⟨ys, hys, h⟩ := Option.bind_eq_some_iff.1 h
      split at h
      · rename_i hsd
        obtain ⟨p, hp, h⟩ := Option.map_eq_some_iff.1 h
        obtain ⟨pv, pu⟩ := p
        cases h
        obtain ⟨w', r, hrun, ρ', S', st, hrel⟩ := append_rel (P := P) (ty := o.type) (N := fun l => l ∈ (if isNilC (aev E x) then pu.map (·.1) else [])) h0 h1 ht ht2 hd2 hz hby hz' hzl hi hx hy hys hsd hp
          (fun hxe hune => by
            rw [hxe] at hp hno ⊢
            simp only [aappend] at hp
            split at hp
            · cases hp; exact absurd rfl hune
            · split at hp
              · cases hp
                exact ⟨by simp [isNilC], (hno nm (by simp [isNilC])).2⟩
              · cases hp)
          (fun l n off len hxe => by rw [hxe]; simp [isNilC])
        exact builtin_wp hop hcal (fun cs => by rw [hvs]; rfl) hrun (hn w' r ρ' S' st hrel)
      · cases h
    split at hq
    · rename_i e e' e1 e2
      split at hq
      · rename_i hc
        cases hq
        obtain ⟨t, h0, ht⟩ := Option.bind_eq_some_iff.1 e1
        obtain ⟨t2, h1, ht2⟩ := Option.bind_eq_some_iff.1 e2
        exact go h0 h1 ht ht2 (.inr ⟨_, rfl⟩) hc.1 hc.2.2.1 hc.2.2.2 h
      · cases hq
    · rename_i e e1 e2
      split at hq
      · rename_i hc
        cases hq
        obtain ⟨t, h0, ht⟩ := Option.bind_eq_some_iff.1 e1
        obtain ⟨t2, h1, ht2⟩ := Option.bind_eq_some_iff.1 e2
        exact go h0 h1 ht ht2 (.inl rfl) (by omega) hc.2.1 hc.2.2 (by rw [hc.1]; exact h)
      · cases hq
    · rename_i e e1 e2
      split at hq
      · rename_i z hz
        split at hq
        · rename_i hc
          cases hq
          obtain ⟨t, h0, ht⟩ := Option.bind_eq_some_iff.1 e1
          obtain ⟨t2, h1, ht2⟩ := Option.bind_eq_some_iff.1 e2
          simp only [AOpOf.map, aop] at h
          obtain ⟨p, hp, h⟩ := Option.map_eq_some_iff.1 h
          obtain ⟨pv, pu⟩ := p
          cases h
          obtain ⟨w', r, hrun, ρ', st, hrel⟩ := appz_rel (P := P) (ty := o.type) (N := fun l => l ∈ [nm]) h0 h1 ht ht2 hc.1 hc.2.2 hz hc.2.1 hi (by simp) (hno nm (by simp)).2 hx hy hp
          exact builtin_wp hop hcal (fun cs => by rw [hvs]; rfl) hrun (hn w' r ρ' S st hrel)
        · cases hq
      · cases hq
    · cases hq
  · rename_i x y has
    obtain ⟨vx, vy, hvs, hx, hy⟩ := (args_rel he has).two
    have go : ∀ {t e : TypeId}, c.argTypes[0]? = some t → P.underlying t = some (.slice e) → szOf P e ≠ 0 → aop X nm H (.copy (szOf P e) (aev E x) (aev E y)) = some (v, u, nw) → o.wp P a w next Q := by
      intro t e h0 ht hz h
      simp only [aop] at h
      obtain ⟨ys, hys, h⟩ := Option.bind_eq_some_iff.1 h
      split at h
      · rename_i hsd
        obtain ⟨p, hp, h⟩ := Option.map_eq_some_iff.1 h
        obtain ⟨pv, pu⟩ := p
        cases h
        obtain ⟨w', r, hrun, ρ', S', st, hrel⟩ := copy_rel (P := P) (ty := o.type) h0 ht hz hi hx hy hys hsd hp
        exact builtin_wp hop hcal (fun cs => by rw [hvs]; rfl) hrun (hn w' r ρ' S' (st.weaken fun _ h => h.elim) hrel)
      · cases h
    split at hq
    · rename_i e e' e1 e2
      split at hq
      · rename_i hc
        cases hq
        obtain ⟨t, h0, ht⟩ := Option.bind_eq_some_iff.1 e1
        exact go h0 ht hc.1 h
      · cases hq
    · rename_i e e1 e2
      split at hq
      · rename_i hc
        cases hq
        obtain ⟨t, h0, ht⟩ := Option.bind_eq_some_iff.1 e1
        exact go h0 ht (by omega) (by rw [hc]; exact h)
      · cases hq
    · cases hq
  · rename_i x has
    obtain ⟨vx, hvs, hx⟩ := (args_rel he has).one
    split at hq
    · rename_i e e1
      obtain ⟨t, h0, ht⟩ := Option.bind_eq_some_iff.1 e1
      split at hq
      · rename_i z hz
        split at hq
        · rename_i hc
          cases hq
          simp only [aop, AOpOf.map] at h
          split at h
          · rename_i l n off len hxe
            split at h
            · rename_i s es hes
              split at h
              · rename_i hcc
                cases h
                rw [hxe] at hx
                obtain ⟨w', hrun, ρ', S', st⟩ := clear_rel (P := P) (ty := o.type) h0 ht hc.1 hz hi hx hes hcc.1 hcc.2.1 ((List.length_map _).symm.trans hcc.2.2) (hcc.2.2.symm.trans ((List.length_map _).trans hc.2))
                exact builtin_wp hop hcal (fun cs => by rw [hvs]; rfl) hrun (hn w' _ ρ' S' (st.weaken fun _ h => h.elim) (tup_undef))
              · cases h
            · cases h
          · rename_i hxe
            cases h
            rw [hxe] at hx
            have hrun : (Builtin.clear_ c.argTypes o.type #[vx]).run P w = .ok (.tuple #[]) w := by
              cases hx with
              | d _ _ hd =>
                cases hd with
                | vnil t b => cases b <;> simp [Builtin.clear_, h0, run_underlying ht]
                | vs => simp [Builtin.clear_, h0, run_underlying ht]
            exact builtin_wp hop hcal (fun cs => by rw [hvs]; rfl) hrun (hn w _ ρ S (.refl hi) (tup_undef))
          · cases h
        · cases hq
      · cases hq
    · cases hq
  · rename_i x y has
    obtain ⟨vx, vy, hvs, hx, hy⟩ := (args_rel he has).two
    split at hq
    · rename_i kt et e1
      obtain ⟨t, h0, ht⟩ := Option.bind_eq_some_iff.1 e1
      obtain ⟨p, hp, rfl⟩ := Option.map_eq_some_iff.1 hq
      obtain ⟨ag, ks⟩ := p
      simp only [aop, AOpOf.map] at h
      obtain ⟨p, hp', h⟩ := Option.map_eq_some_iff.1 h
      obtain ⟨pv, pu⟩ := p
      cases h
      obtain ⟨hr, w', hrun, ρ', S', st⟩ := delete_rel (P := P) (ty := o.type) h0 ht hp hi hx hy hp'
      subst hr
      exact builtin_wp hop hcal (fun cs => by rw [hvs]; rfl) hrun (hn w' _ ρ' S' (st.weaken fun _ h => h.elim) (tup_undef))
    · cases hq
  · rename_i xs has
    cases hq
    obtain ⟨rfl, y, hy, hr⟩ := best_rel true c.argTypes o.type (args_rel he has) h
    exact builtin_wp hop hcal (fun cs => rfl) hy (hn w y ρ S (.refl hi) hr)
  · rename_i xs has
    cases hq
    obtain ⟨rfl, y, hy, hr⟩ := best_rel false c.argTypes o.type (args_rel he has) h
    exact builtin_wp hop hcal (fun cs => rfl) hy (hn w y ρ S (.refl hi) hr)
  · cases hq
end
end Bz

/- One operation, any. -/
namespace Bz
open Go

section
variable {P : Program} {w : World} {ρ : Nm} {S : Nat → Prop} {H : Heap} {a : Act} {next : Act → World → Prop} {Q : Exit → Act → World → Prop}

theorem cv_zero {t : TypeId} {z : AV} (h : zeroOf P t = some z) : ∃ zv, (∀ w : World, (zeroValue t).run P w = .ok zv w) ∧ cv zv = some z := by
  unfold zeroOf at h
  obtain ⟨zv, h1, h2⟩ := Option.bind_eq_some_iff.1 h
  obtain ⟨i, hi, hz⟩ := Option.bind_eq_some_iff.1 h1
  exact ⟨zv, fun w => run_zero hi hz w, h2⟩

theorem cv_solid {v : Value} {x : AV} (h : cv v = some x) : solid x = true := by
  cases v <;> simp only [cv] at h
  case agg cs =>
    obtain ⟨ds, _, rfl⟩ := Option.map_eq_some_iff.1 h
    simp [solid, cellsOf, flatA]
  all_goals
    obtain ⟨d, _, rfl⟩ := Option.map_eq_some_iff.1 h
    simp [solid, cellsOf, flatA]

set_option maxHeartbeats 4000000 in
theorem op_sound {o : Oper} {X : Ctx} (hC : Good P X.C) (hi : Inv ρ S H w) {E : List AV} (he : RelE ρ S H w E a.tmps) {q : AOp} (hq : cvOp P o.op = some q) {nm : Nat} {v : AV} {u : Upd} {nw : List Nat}
    (h : aop X nm H (q.map (aev E)) = some (v, u, nw)) (hno : ∀ l ∈ nw, l ∉ refsL E ∧ ∀ m p, hget H m = some p → m ≠ l → l ∉ refsO p)
    (hn : Hands (fun l => l ∈ nw) ρ S H w v u fun y w' => next (a.put o.dst y) w') : o.wp P a w next Q := by
  obtain ⟨dst, op, type, pos, after, guard⟩ := o
  simp only at hq hn
  cases op with
  | move x =>
    simp only [cvOp] at hq
    obtain ⟨qx, hx, rfl⟩ := Option.map_eq_some_iff.1 hq
    simp only [AOpOf.map, aop] at h; cases h
    exact pure_wp (s := pure (a.eval x)) hi hn rfl ⟨_, rfl, (cvO_rel he hx).rel⟩
  | assign x =>
    simp only [cvOp] at hq
    obtain ⟨qx, hx, rfl⟩ := Option.map_eq_some_iff.1 hq
    simp only [AOpOf.map, aop] at h; cases h
    exact pure_wp (s := pure (a.eval x)) hi hn rfl ⟨_, rfl, (cvO_rel he hx).rel⟩
  | pick c x y =>
    simp only [cvOp] at hq
    split at hq
    · rename_i qc qx qy hc hx hy
      cases hq
      simp only [AOpOf.map, aop] at h
      split at h
      · rename_i t ht
        cases h
        have hcr := (cvO_rel he hc).rel
        rw [ht] at hcr
        have hcv := relA_bool hcr
        refine pure_wp (s := (do pure (if ← asBool (a.eval c) then a.eval x else a.eval y))) hi hn ?_ ⟨if t then a.eval x else a.eval y, ?_, ?_⟩
        · simp [execOp]
        · simp [hcv, asBool]
        · cases t
          · exact (cvO_rel he hy).rel
          · exact (cvO_rel he hx).rel
      · cases h
    · cases hq
  | alloc t =>
    simp only [cvOp] at hq
    split at hq
    · rename_i hz
      obtain ⟨z, hzo, rfl⟩ := Option.map_eq_some_iff.1 hq
      simp only [AOpOf.map, aop, aev] at h
      split at h
      · rename_i hc
        cases h
        obtain ⟨zv, hzr, hcv⟩ := cv_zero hzo
        have hl : nm ∈ [nm] := by simp
        obtain ⟨w', hrun, ρ', st, hr⟩ := box_rel (P := P) (sz := 0) (N := fun l => l ∈ [nm]) hi hl (hno nm hl).2 (cv_rel hcv) (by simp [cv_refs hcv]) (cv_solid hcv) t
        exact val_wp (s := Instr.alloc t true (.tuple #[])) rfl (by simp [Instr.alloc, hzr, hrun]) (hn w' _ ρ' S st hr)
      · cases h
    · cases hq
  | box t x =>
    simp only [cvOp] at hq
    split at hq
    · rename_i hz
      obtain ⟨qx, hx, rfl⟩ := Option.map_eq_some_iff.1 hq
      simp only [AOpOf.map, aop] at h
      split at h
      · rename_i hc
        cases h
        have hl : nm ∈ [nm] := by simp
        obtain ⟨w', hrun, ρ', st, hr⟩ := box_rel (P := P) (sz := 0) (N := fun l => l ∈ [nm]) hi hl (hno nm hl).2 (cvO_rel he hx).rel (fun hm => (hno nm hl).1 ((cvO_rel he hx).sub _ hm)) hc.2 t
        exact val_wp (s := Instr.box t (a.eval x)) rfl (by simp [Instr.box, hrun]) (hn w' _ ρ' S st hr)
      · cases h
    · cases hq
  | build t ps =>
    simp only [cvOp] at hq
    split at hq
    · rename_i fs ht
      split at hq
      · rename_i z as hz has
        split at hq
        · rename_i hall
          cases hq
          simp only [AOpOf.map, aop] at h
          obtain ⟨cs, hcs, h⟩ := Option.map_eq_some_iff.1 h
          cases h
          obtain ⟨g1, g2⟩ := cvParts_get has
          refine pure_wp (s := Instr.build t (ps.map fun p => (p.1, a.eval p.2))) hi hn rfl ?_
          refine build_rel ht hz hall (by simp [g1]) (fun k p hp => ?_) hcs
          rw [List.getElem?_map] at hp
          obtain ⟨p0, hp0, rfl⟩ := Option.map_eq_some_iff.1 hp
          obtain ⟨i, x, f, e1, e2, e3, e4, e5⟩ := g2 k p0 hp0
          exact ⟨i, a.eval x, f, by simpa using ⟨i, x, by simpa using e1, rfl, rfl⟩, e2, e3, e4, (cvO_rel he e5).rel⟩
        · cases hq
      · cases hq
    · rename_i n e ht
      split at hq
      · rename_i z as hz has
        split at hq
        · rename_i hsz
          cases hq
          simp only [AOpOf.map, aop] at h
          obtain ⟨cs, hcs, h⟩ := Option.map_eq_some_iff.1 h
          cases h
          obtain ⟨g1, g2⟩ := cvPartsA_get has
          refine pure_wp (s := Instr.build t (ps.map fun p => (p.1, a.eval p.2))) hi hn rfl ?_
          refine buildA_rel ht hz hsz (by simp [g1]) (fun k p hp => ?_) hcs
          rw [List.getElem?_map] at hp
          obtain ⟨p0, hp0, rfl⟩ := Option.map_eq_some_iff.1 hp
          obtain ⟨i, x, e1, e3, e4, e5⟩ := g2 k p0 hp0
          exact ⟨i, a.eval x, by simpa using ⟨i, x, by simpa using e1, rfl, rfl⟩, e3, e4, (cvO_rel he e5).rel⟩
        · cases hq
      · cases hq
    · cases hq
  | buildSlice t len ps =>
    simp only [cvOp] at hq
    split at hq
    · rename_i e ht
      split at hq
      · rename_i z as hz has
        split at hq
        · rename_i hc
          cases hq
          simp only [AOpOf.map, aop] at h
          obtain ⟨g1, g2⟩ := cvElems_get has
          split at h
          · obtain ⟨es, hes, h⟩ := Option.map_eq_some_iff.1 h
            cases h
            have hl : nm ∈ [nm] := by simp
            have hsub : nm ∉ refsL ((List.map (fun p : Nat × AOpd => (p.1, aev E p.2)) as).map (·.2)) := fun hm => by
              refine (hno nm hl).1 ?_
              obtain ⟨k, x, hk, hx⟩ := refsL_mem' hm
              rw [List.getElem?_map, List.getElem?_map] at hk
              cases hp0 : as[k]? with
              | none => rw [hp0] at hk; cases hk
              | some p0 =>
                rw [hp0] at hk; cases hk
                obtain ⟨x', e1, e5⟩ := g2 k p0 hp0
                exact (cvO_rel he e5).sub nm hx
            obtain ⟨w', y, hrun, ρ', st, hr⟩ := buildSlO_rel (N := fun l => l ∈ [nm]) ht hc.1 hz hc.2.1 hc.2.2 hi hl (hno nm hl).2 (parts := ps.map fun p => (p.1, a.eval p.2)) (by simp [g1]) hsub (fun k p hp => by
              rw [List.getElem?_map] at hp
              obtain ⟨p0, hp0, rfl⟩ := Option.map_eq_some_iff.1 hp
              obtain ⟨x, e1, e5⟩ := g2 k p0 hp0
              exact ⟨a.eval x, by simpa using ⟨p0.1, x, by simpa using e1, rfl, rfl⟩, (cvO_rel he e5).rel⟩) hes
            refine val_wp ?_ hrun (hn w' y ρ' S st hr)
            rfl
          obtain ⟨es, hes, h⟩ := Option.map_eq_some_iff.1 h
          cases h
          have hl : nm ∈ [nm] := by simp
          obtain ⟨w', y, hrun, ρ', S', st, hr⟩ := buildSl_rel (N := fun l => l ∈ [nm]) ht hc.1 hz hc.2.1 hc.2.2 hi hl (hno nm hl).2 (parts := ps.map fun p => (p.1, a.eval p.2)) (by simp [g1]) (fun k p hp => by
            rw [List.getElem?_map] at hp
            obtain ⟨p0, hp0, rfl⟩ := Option.map_eq_some_iff.1 hp
            obtain ⟨x, e1, e5⟩ := g2 k p0 hp0
            exact ⟨a.eval x, by simpa using ⟨p0.1, x, by simpa using e1, rfl, rfl⟩, (cvO_rel he e5).rel⟩) hes
          refine val_wp ?_ hrun (hn w' y ρ' S' st hr)
          rfl
        · cases hq
      · cases hq
    · cases hq
  | load t x =>
    simp only [cvOp] at hq
    split at hq
    · rename_i hz
      split at hq
      · rename_i g qx hg hx
        cases hq
        simp only [AOpOf.map, aop] at h
        obtain ⟨r, hr, h⟩ := Option.bind_eq_some_iff.1 h
        unfold aopen at h
        split at h
        · rename_i r t' 
          split at h
          · rename_i v' o' hu
            obtain ⟨u', hu', h⟩ := Option.map_eq_some_iff.1 h
            cases h
            have hl : nm ∈ [nm] := by simp
            have hgf := aload_ow hr
            subst hgf
            have hxr := cvO_rel he hx
            obtain ⟨ad, z, hy, hz', ρ', st, hrel⟩ := open_rel (N := fun l => l ∈ [nm]) hi hxr.rel hr hu hu' hl (fun l hl' => by
              have : l ≠ nm := fun e => (hno nm hl).1 (e ▸ hxr.sub l hl')
              exact ⟨by simpa using this, this⟩) (hno nm hl).2
            have hrun := load_one (P := P) hg hz'
            exact val_wp (s := Instr.loadAt t (a.eval x)) rfl (by rw [hy]; exact hrun) (hn w z ρ' S st hrel)
          · cases h
        · cases h
          exact pure_wp (s := Instr.loadAt t (a.eval x)) hi hn rfl (load_rel rfl hz hg hi (cvO_rel he hx).rel hr)
      · cases hq
    · cases hq
  | store t x y =>
    simp only [cvOp] at hq
    split at hq
    · rename_i hz
      split at hq
      · rename_i qx qy hx hy
        cases hq
        simp only [AOpOf.map, aop] at h
        obtain ⟨r, hr, h⟩ := Option.map_eq_some_iff.1 h
        cases h
        obtain ⟨w', hrun, ρ', S', st⟩ := store_rel (P := P) rfl hz hi (cvO_rel he hx).rel (cvO_rel he hy).rel hr
        exact skip_wp (s := Instr.storeAt t (a.eval x) (a.eval y)) rfl hrun (hn w' _ ρ' S' (st.weaken fun _ h => h.elim) tup_undef)
      · cases hq
    · cases hq
  | nilCheck x =>
    simp only [cvOp] at hq
    obtain ⟨qx, hx, rfl⟩ := Option.map_eq_some_iff.1 hq
    simp only [AOpOf.map, aop] at h
    obtain ⟨r, hr, h⟩ := Option.map_eq_some_iff.1 h
    cases h
    split at hr
    · rename_i hl
      have hrel := (cvO_rel he hx).rel
      generalize aev E qx = xv at hr hl hrel
      obtain ⟨ev, hev⟩ : ∃ ev, a.eval x = ev := ⟨_, rfl⟩
      rw [hev] at hrel
      unfold Oper.wp
      have key : (execOp a.eval ⟨dst, .nilCheck x, type, pos, after, guard⟩).run P w = .ok (.value ev) w ∧ RelA ρ S H w v ev := by
        unfold anil at hr
        split at hr
        · cases hr
          cases hrel with
          | pv _ _ vv hf hv => have e := hv (liveA_var hl); subst e; constructor; · simp [execOp, hev]
                               · exact .pv _ _ _ hf hv
        · cases hr
          cases hrel with
          | pa _ _ _ _ vv hf hv =>
            obtain ⟨sz, hc⟩ := liveA_cnt' hl
            have e := (hv sz _ hc).2 rfl
            subst e
            constructor
            · simp [execOp, hev]
            · exact .pa _ _ _ _ _ hf hv
        · cases hr
          refine ⟨?_, hrel⟩
          cases hrel with
          | vp _ _ ad xs h1 h2 h3 => simp [execOp, hev]
        · cases hr
          refine ⟨?_, hrel⟩
          cases hrel with
          | fn _ _ vs ys h1 h2 h3 => simp [execOp, hev]
        · cases hr
      rw [key.1]
      exact hn w _ ρ S (.refl hi) key.2
    · cases hr
  | binOp op t x y c =>
    simp only [cvOp] at hq
    split at hq
    · rename_i qx qy hx hy
      have rx := (cvO_rel he hx).rel
      have ry := (cvO_rel he hy).rel
      have bin : (∃ z, ((do eqGuard op t x y (a.eval x) (a.eval y); binOp op t (a.eval x) (a.eval y) : Sem Value)).run P w = .ok z w ∧ RelA ρ S H w v z) → u = [] →
          Oper.wp P ⟨dst, .binOp op t x y c, type, pos, after, guard⟩ a w next Q := by
        intro hz hu
        subst hu
        exact pure_wp (o := ⟨dst, .binOp op t x y c, type, pos, after, guard⟩) (s := (do eqGuard op t x y (a.eval x) (a.eval y); binOp op t (a.eval x) (a.eval y))) hi hn rfl hz
      split at hq
      · split at hq
        · rename_i ks hks
          have agg : ∀ {neg : Bool}, aop X nm H (.eqagg ks neg (aev E qx) (aev E qy)) = some (v, u, nw) → u = [] ∧ aeqagg ks neg (aev E qx) (aev E qy) = some v := by
            intro neg h
            simp only [aop] at h
            obtain ⟨r, hr, h⟩ := Option.map_eq_some_iff.1 h
            cases h; exact ⟨rfl, hr⟩
          split at hq
          · cases hq
            obtain ⟨hu, hv⟩ := agg h
            exact bin (eqagg_rel (neg := false) hks x y rx ry hv) hu
          · cases hq
            obtain ⟨hu, hv⟩ := agg h
            exact bin (eqagg_rel (neg := true) hks x y rx ry hv) hu
          · cases hq
        · cases hq
      · cases hq
        simp only [AOpOf.map, aop] at h
        obtain ⟨r, hr, h⟩ := Option.map_eq_some_iff.1 h
        cases h
        exact bin (abin_rel t x y rx ry hr) rfl
      · cases hq
        simp only [AOpOf.map, aop] at h
        obtain ⟨r, hr, h⟩ := Option.map_eq_some_iff.1 h
        cases h
        exact bin (abin_rel t x y rx ry hr) rfl
      · rename_i ht
        split at hq
        · cases hq
          simp only [AOpOf.map, aop] at h
          obtain ⟨r, hr, h⟩ := Option.map_eq_some_iff.1 h
          cases h
          exact bin (abinb_rel (neg := false) t ht x y rx ry hr) rfl
        · cases hq
          simp only [AOpOf.map, aop] at h
          obtain ⟨r, hr, h⟩ := Option.map_eq_some_iff.1 h
          cases h
          exact bin (abinb_rel (neg := true) t ht x y rx ry hr) rfl
        · cases hq
      · rename_i ht
        obtain ⟨hu, hz⟩ := nilcmp_rel (k := .p) ht trivial he hx hy hq h
        exact bin hz hu
      · rename_i ht
        obtain ⟨hu, hz⟩ := nilcmp_rel (k := .s) ht trivial he hx hy hq h
        exact bin hz hu
      · rename_i ht
        obtain ⟨hu, hz⟩ := nilcmp_rel (k := .m) ht trivial he hx hy hq h
        exact bin hz hu
      · rename_i ht
        obtain ⟨hu, hz⟩ := nilcmp_rel (k := .f) ht trivial he hx hy hq h
        exact bin hz hu
      · cases hq
    · cases hq
  | unOp op t x =>
    simp only [cvOp] at hq
    obtain ⟨qx, hx, rfl⟩ := Option.map_eq_some_iff.1 hq
    simp only [AOpOf.map, aop] at h
    obtain ⟨r, hr, h⟩ := Option.map_eq_some_iff.1 h
    cases h
    exact pure_wp (s := Op.unary op (a.eval x)) hi hn rfl (aun_rel (cvO_rel he hx).rel hr)
  | convert s t x =>
    simp only [cvOp] at hq
    split at hq
    · rename_i k' k hs ht
      obtain ⟨qx, hx, rfl⟩ := Option.map_eq_some_iff.1 hq
      simp only [AOpOf.map, aop] at h
      split at h
      · rename_i k0 n hxe
        cases h
        have rx := (cvO_rel he hx).rel
        rw [hxe] at rx
        have e := relA_int rx
        exact pure_wp (s := Go.convert s t (a.eval x)) hi hn rfl ⟨_, by simp [e, Go.convert, run_underlying hs, run_underlying ht, Conv.intToInt], rel_int _ _⟩
      · cases h
    · rename_i hs ht
      obtain ⟨qx, hx, rfl⟩ := Option.map_eq_some_iff.1 hq
      simp only [AOpOf.map, aop] at h
      split at h
      · rename_i s0 hxe
        cases h
        have rx := (cvO_rel he hx).rel
        rw [hxe] at rx
        have e := relA_str rx
        exact pure_wp (s := Go.convert s t (a.eval x)) hi hn rfl ⟨_, by simp [e, Go.convert, run_underlying hs, run_underlying ht], rel_str _⟩
      · cases h
    · rename_i e hs ht
      split at hq
      · rename_i he'
        split at hq
        · rename_i hz
          obtain ⟨qx, hx, rfl⟩ := Option.map_eq_some_iff.1 hq
          simp only [AOpOf.map, aop] at h
          obtain ⟨r, hr, h⟩ := Option.map_eq_some_iff.1 h
          cases h
          obtain ⟨ys, hys, hb⟩ := Option.bind_eq_some_iff.1 hr
          exact pure_wp (s := Go.convert s t (a.eval x)) hi hn rfl ⟨_, toStr_rel hs he' ht hi (cvO_rel he hx).rel hys hb, rel_str _⟩
        · cases hq
      · cases hq
    · cases hq
  | makeFunc fn first captured =>
    cases fn with
    | func f =>
      simp only [cvOp] at hq
      split at hq
      · rename_i hf
        obtain ⟨qs, hqs, rfl⟩ := Option.map_eq_some_iff.1 hq
        simp only [AOpOf.map, aop] at h
        cases h
        have har := args_rel he hqs
        have hfe : first = #[] := by simpa using hf
        subst hfe
        refine pure_wp (s := Instr.makeFunc (.func f) (#[].map a.eval) (captured.map a.eval)) hi hn rfl ⟨_, rfl, ?_⟩
        have hemp : (#[] : Array Operand).map a.eval = #[] := by simp
        rw [hemp]
        refine .fn f _ _ (fun i => ((captured.map a.eval)[i]?).getD Go.undef) har.1 (fun i x hx => ?_) (fun i x hx => ?_)
        · obtain ⟨y, hy, _⟩ := har.2 i x hx; rw [hy]; rfl
        · obtain ⟨y, hy, hr⟩ := har.2 i x hx; rw [hy]; exact hr
      · cases hq
    | _ => simp [cvOp] at hq
  | makeMap t r =>
    cases r with
    | some r => simp [cvOp] at hq
    | none =>
      simp only [cvOp] at hq
      split at hq
      · obtain ⟨p, hp, rfl⟩ := Option.map_eq_some_iff.1 hq
        simp only [AOpOf.map, aop] at h
        cases h
        have hl : nm ∈ [nm] := by simp
        obtain ⟨w', y, hrun, ρ', st, hr⟩ := mkmap_rel (P := P) (N := fun l => l ∈ [nm]) hi hl (hno nm hl).2 t p.1 p.2
        exact val_wp (s := Instr.makeMap t none) rfl hrun (hn w' y ρ' S st hr)
      · cases hq
  | makeSlice t l c =>
    simp only [cvOp] at hq
    split at hq
    · rename_i e ht
      split at hq
      · rename_i z ql qc hz hl' hc'
        split at hq
        · rename_i hc
          cases hq
          simp only [AOpOf.map, aop] at h
          obtain ⟨p, hp, h⟩ := Option.map_eq_some_iff.1 h
          obtain ⟨pv, pu⟩ := p
          cases h
          have hl : nm ∈ [nm] := by simp
          obtain ⟨w', y, hrun, ρ', st, hr⟩ := mksl_rel (P := P) (N := fun l => l ∈ [nm]) ht hc.1 hz hc.2.1 hc.2.2 hi hl (hno nm hl).2 (cvO_rel he hl').rel (cvO_rel he hc').rel hp
          exact val_wp (s := Instr.makeSlice t (a.eval l) (a.eval c)) rfl hrun (hn w' y ρ' S st hr)
        · cases hq
      · cases hq
    · cases hq
  | slice t x lo hi' mx =>
    simp only [cvOp] at hq
    split at hq
    · rename_i qx qlo qhi qmx hx hlo hhi hmx
      have rx := (cvO_rel he hx).rel
      have rlo := cvM_rel he hlo
      have rhi := cvM_rel he hhi
      have rmx := cvM_rel he hmx
      split at hq
      · rename_i ht
        split at hq
        · rename_i hnone
          cases hq
          simp only [AOpOf.map, aop] at h
          split at h
          · rename_i s hxe
            obtain ⟨p, hp, h⟩ := Option.map_eq_some_iff.1 h
            cases h
            rw [hxe] at rx
            have : mx = none := by
              cases mx with
              | none => rfl
              | some m =>
                simp only [cvM] at hmx
                obtain ⟨z, _, rfl⟩ := Option.map_eq_some_iff.1 hmx
                simp at hnone
            subst this
            exact pure_wp (s := Instr.sliceAt t (a.eval x) (lo.map a.eval) (hi'.map a.eval) (none.map a.eval)) hi hn rfl ⟨_, slstr_rel ht rx rlo rhi hp, rel_str _⟩
          · cases h
        · cases hq
      · rename_i e ht
        split at hq
        · rename_i hc
          cases hq
          simp only [AOpOf.map, aop] at h
          obtain ⟨r, hr, h⟩ := Option.map_eq_some_iff.1 h
          cases h
          split at hr
          · rename_i hl
            refine pure_wp (s := Instr.sliceAt t (a.eval x) (lo.map a.eval) (hi'.map a.eval) (mx.map a.eval)) hi hn rfl (slice_rel ht hc.1 hi rx rlo rhi rmx (fun hm => ?_) hl hr)
            rcases hc.2 with h | h
            · rw [Option.isNone_iff_eq_none] at h; subst h; simp at hm
            · simpa using h
          · cases hr
        · cases hq
      · cases hq
    · cases hq
  | fieldAddr t x i =>
    simp only [cvOp] at hq
    split at hq
    · rename_i fs ht
      split at hq
      · rename_i f hf
        split at hq
        · rename_i hz
          obtain ⟨qx, hx, rfl⟩ := Option.map_eq_some_iff.1 hq
          simp only [AOpOf.map, aop] at h
          obtain ⟨r, hr, h⟩ := Option.map_eq_some_iff.1 h
          cases h
          split at hr
          · rename_i hl
            exact pure_wp (s := Instr.fieldAt t (a.eval x) i) hi hn rfl (faddr_rel ht hf hz (cvO_rel he hx).rel hl hr)
          · cases hr
        · cases hq
      · cases hq
    · cases hq
  | field t x i =>
    simp only [cvOp] at hq
    split at hq
    · rename_i fs ht
      split at hq
      · rename_i f hf
        split at hq
        · rename_i hz
          split at hq
          · rename_i g qx hg hx
            cases hq
            simp only [AOpOf.map, aop] at h
            split at h
            · rename_i cs hxe
              obtain ⟨r, hr, h⟩ := Option.map_eq_some_iff.1 h
              cases h
              obtain ⟨ds, hds, hmk⟩ := Option.bind_eq_some_iff.1 hr
              have rx := (cvO_rel he hx).rel
              rw [hxe] at rx
              obtain ⟨vs, hvs, _⟩ := agg_cells rx
              rw [hvs] at rx
              obtain ⟨z, hz', hrel⟩ := part_rel (P := P) rfl hz hg rx hds hmk
              exact pure_wp (s := Instr.field t (a.eval x) i) hi hn rfl ⟨z, by simp [Instr.field, run_underlying ht, hf, hvs, asAgg, hz'], hrel⟩
            · cases h
          · cases hq
        · cases hq
      · cases hq
    · cases hq
  | indexAddr t x i =>
    simp only [cvOp] at hq
    split at hq
    · rename_i n e ht
      split at hq
      · rename_i hz
        split at hq
        · rename_i qx qi hx hi'
          cases hq
          simp only [AOpOf.map, aop] at h
          obtain ⟨r, hr, h⟩ := Option.map_eq_some_iff.1 h
          cases h
          split at hr
          · rename_i hl
            exact pure_wp (s := Instr.indexAt t (a.eval x) (a.eval i)) hi hn rfl (iarr_rel ht hz (cvO_rel he hx).rel (cvO_rel he hi').rel hl hr)
          · cases hr
        · cases hq
      · cases hq
    · rename_i e ht
      split at hq
      · rename_i hz
        split at hq
        · rename_i qx qi hx hi'
          cases hq
          simp only [AOpOf.map, aop] at h
          obtain ⟨r, hr, h⟩ := Option.map_eq_some_iff.1 h
          cases h
          split at hr
          · rename_i hl
            exact pure_wp (s := Instr.indexAt t (a.eval x) (a.eval i)) hi hn rfl (iaddr_rel ht hz (cvO_rel he hx).rel (cvO_rel he hi').rel hl hr)
          · cases hr
        · cases hq
      · cases hq
    · cases hq
  | index t x i =>
    simp only [cvOp] at hq
    split at hq
    · rename_i n e ht
      split at hq
      · rename_i hz
        split at hq
        · rename_i g qx qi hg hx hi'
          cases hq
          simp only [AOpOf.map, aop] at h
          split at h
          · rename_i cs kk m hxe hie
            split at h
            · rename_i hm
              obtain ⟨r, hr, h⟩ := Option.map_eq_some_iff.1 h
              cases h
              have rx := (cvO_rel he hx).rel
              rw [hxe] at rx
              have ri := (cvO_rel he hi').rel
              rw [hie] at ri
              exact pure_wp (s := Instr.index t (a.eval x) (a.eval i)) hi hn rfl (index_rel ht hz hg rx ri hm hr)
            · cases h
          · cases h
        · cases hq
      · cases hq
    · rename_i ht
      split at hq
      · rename_i qx qi hx hi'
        cases hq
        simp only [AOpOf.map, aop] at h
        obtain ⟨r, hr, h⟩ := Option.map_eq_some_iff.1 h
        cases h
        exact pure_wp (s := Instr.index t (a.eval x) (a.eval i)) hi hn rfl (idx_rel ht (cvO_rel he hx).rel (cvO_rel he hi').rel hr)
      · cases hq
    · cases hq
  | lookup t x k ok =>
    simp only [cvOp] at hq
    split at hq
    · rename_i kt e ht
      split at hq
      · rename_i p z qx qk hp hz hx hk
        cases hq
        simp only [AOpOf.map, aop] at h
        obtain ⟨r, hr, h⟩ := Option.map_eq_some_iff.1 h
        cases h
        exact pure_wp (s := Instr.lookup t (a.eval x) (a.eval k) ok) hi hn rfl (lookup_rel ht (ag := p.1) (ks := p.2) hp hz hi (cvO_rel he hx).rel (cvO_rel he hk).rel hr ok)
      · cases hq
    · cases hq
  | mapUpdate t m k x =>
    simp only [cvOp] at hq
    split at hq
    · rename_i kt e ht
      split at hq
      · rename_i p qm qk qx hp hm hk hx
        cases hq
        simp only [AOpOf.map, aop] at h
        obtain ⟨r, hr, h⟩ := Option.map_eq_some_iff.1 h
        obtain ⟨rv, ru⟩ := r
        cases h
        obtain ⟨hrv, w', hrun, ρ', S', st⟩ := mapupd_rel (P := P) ht (ag := p.1) (ks := p.2) hp hi (cvO_rel he hm).rel (cvO_rel he hk).rel (cvO_rel he hx).rel hr
        subst hrv
        exact skip_wp (s := Instr.mapUpdate t (a.eval m) (a.eval k) (a.eval x)) rfl hrun (hn w' _ ρ' S' (st.weaken fun _ h => h.elim) tup_undef)
      · cases hq
    · cases hq
  | insert t m k x =>
    simp only [cvOp] at hq
    split at hq
    · rename_i kt e ht
      split at hq
      · rename_i p qm qk qx hp hm hk hx
        cases hq
        simp only [AOpOf.map, aop] at h
        obtain ⟨r, hr, h⟩ := Option.map_eq_some_iff.1 h
        obtain ⟨rv, ru⟩ := r
        cases h
        obtain ⟨hrv, w', hrun, ρ', S', st⟩ := mapupd_rel (P := P) ht (ag := p.1) (ks := p.2) hp hi (cvO_rel he hm).rel (cvO_rel he hk).rel (cvO_rel he hx).rel hr
        subst hrv
        exact skip_wp (s := Instr.mapUpdate t (a.eval m) (a.eval k) (a.eval x)) rfl hrun (hn w' _ ρ' S' (st.weaken fun _ h => h.elim) tup_undef)
      · cases hq
    · cases hq
  | extract x i =>
    simp only [cvOp] at hq
    obtain ⟨qx, hx, rfl⟩ := Option.map_eq_some_iff.1 hq
    simp only [AOpOf.map, aop] at h
    split at h
    · rename_i cs hxe
      obtain ⟨r, hr, h⟩ := Option.map_eq_some_iff.1 h
      cases h
      have rx := (cvO_rel he hx).rel
      rw [hxe] at rx
      generalize hev : a.eval x = ev at rx
      cases rx with
      | tup _ vs ys h1 h2 h3 =>
        refine pure_wp (s := Instr.extract (a.eval x) i) hi hn rfl ⟨ys i, by simp [hev, Instr.extract, h2 i _ hr], h3 i _ hr⟩
    · cases h
  | call c =>
    simp only [cvOp] at hq
    cases hcal : c.callee with
    | value f =>
      simp only [cvCall, hcal] at hq
      split at hq
      · rename_i g as hg has
        cases hq
        exact call_wp (o := ⟨dst, .call c, type, pos, after, guard⟩) rfl hcal he hg has hC hi (nm := nm) (nw := nw) h (fun l hl => (hno l hl).2) hn
      · cases hq
    | invoke r m => simp [cvCall, hcal] at hq
    | builtin b => exact bcall_wp (o := ⟨dst, .call c, type, pos, after, guard⟩) rfl hcal he hq hi h hno hn
  | makeInterface t x =>
    simp only [cvOp] at hq
    split at hq
    · rename_i k ht
      obtain ⟨qx, hx, rfl⟩ := Option.map_eq_some_iff.1 hq
      simp only [AOpOf.map, aop] at h
      split at h
      · rename_i d hxe
        cases h
        have rx := (cvO_rel he hx).rel
        rw [hxe] at rx
        cases rx with
        | d _ _ hd =>
          exact pure_wp (s := Instr.makeInterface t (a.eval x)) hi hn rfl ⟨.iface t (a.eval x), by simp [Instr.makeInterface, run_underlying ht], .d _ _ (.ifc t _ _ hd)⟩
      · cases h
    · cases hq
  | _ => simp [cvOp] at hq
end
end Bz

/- A region in the text's order. -/
namespace Bz
open Go

section
variable {P : Program} {X : Ctx}

/-- names that are made in the midst of a function -/
def Big : Nat → Prop := fun l => 10000 ≤ l

theorem nameOf_big (rid i : Nat) : 10000 ≤ nameOf rid i := by unfold nameOf; omega

theorem aop_new {nm : Nat} {H : Heap} {op : AOpOf AV} {v : AV} {u : Upd} {nw : List Nat} (h : aop X nm H op = some (v, u, nw)) : ∀ l ∈ nw, nm ≤ l := by
  intro l hl
  cases op <;> simp only [aop] at h
  case call f args =>
    split at h
    · split at h
      · unfold acallD at h
        split at h
        · cases h
        · split at h
          · cases h
          · split at h
            · cases h; simp at hl
            · split at h
              · cases h
                obtain ⟨x, hx, rfl⟩ := List.mem_map.1 hl
                omega
              · cases h
      unfold acall at h
      split at h
      · cases h
      · simp only at h
        generalize (if X.own _ = true then ([] : Upd) else frz H _) = lent at h
        split at h
        · cases h
        · split at h
          · cases h
          · split at h
            · cases h; simp at hl
            · split at h
              · cases h
                obtain ⟨x, hx, rfl⟩ := List.mem_map.1 hl
                have := (List.mem_filter.1 hx).2
                simp only [decide_eq_true_eq] at this
                rw [if_neg (by omega)]; omega
              · cases h
    · cases h
  case append sz x y =>
    split at h
    · obtain ⟨ys, _, h⟩ := Option.bind_eq_some_iff.1 h
      split at h
      · obtain ⟨p, hp, h⟩ := Option.map_eq_some_iff.1 h
        cases h
        split at hl
        · rename_i hx
          rw [isNilC_iff hx] at hp
          simp only [aappendO] at hp
          split at hp
          · cases hp; simp at hl
          · split at hp
            · cases hp; simp at hl; omega
            · cases hp
        · simp at hl
      · cases h
    obtain ⟨ys, _, h⟩ := Option.bind_eq_some_iff.1 h
    split at h
    · obtain ⟨p, hp, h⟩ := Option.map_eq_some_iff.1 h
      cases h
      split at hl
      · rename_i hx
        rw [isNilC_iff hx] at hp
        simp only [aappend] at hp
        split at hp
        · cases hp; simp at hl
        · split at hp
          · cases hp; simp at hl; omega
          · cases hp
      · simp at hl
    · cases h
  case load sz ag x =>
    obtain ⟨r, _, h⟩ := Option.bind_eq_some_iff.1 h
    unfold aopen at h
    split at h
    · split at h
      · obtain ⟨p, hp, h⟩ := Option.map_eq_some_iff.1 h
        cases h; simp at hl; omega
      · cases h
    · cases h; simp at hl
  case buildSl sz z len ps =>
    split at h
    · obtain ⟨p, hp, h⟩ := Option.map_eq_some_iff.1 h
      cases h; simp at hl; omega
    · obtain ⟨p, hp, h⟩ := Option.map_eq_some_iff.1 h
      cases h; simp at hl; omega
  case fidx n sz ag x i =>
    split at h
    · split at h
      · obtain ⟨p, hp, h⟩ := Option.map_eq_some_iff.1 h
        cases h; simp at hl
      · cases h
    · cases h
  case copy sz x y =>
    obtain ⟨ys, _, h⟩ := Option.bind_eq_some_iff.1 h
    split at h
    · obtain ⟨p, hp, h⟩ := Option.map_eq_some_iff.1 h
      cases h; simp at hl
    · cases h
  case mksl sz z l c =>
    obtain ⟨p, hp, h⟩ := Option.map_eq_some_iff.1 h
    cases h; simp at hl; omega
  case appz sz z x n =>
    obtain ⟨p, hp, h⟩ := Option.map_eq_some_iff.1 h
    cases h; simp at hl; omega
  all_goals
    first
    | (cases h; done)
    | (cases h; simp at hl; done)
    | (cases h; simp at hl; omega)
    | (obtain ⟨p, hp, h⟩ := Option.map_eq_some_iff.1 h; cases h; simp at hl; done)
    | (obtain ⟨p, hp, h⟩ := Option.map_eq_some_iff.1 h; cases h; simp at hl; omega)
    | (split at h <;> first | (cases h; done) | (cases h; simp at hl; done) | (cases h; simp at hl; omega) | (obtain ⟨p, hp, h⟩ := Option.map_eq_some_iff.1 h; cases h; simp at hl; done) |
        (split at h <;> first | (cases h; done) | (cases h; simp at hl; done) | (split at h <;> cases h <;> simp at hl; done)))

/-- operation and what stands for it -/
theorem cvOper_cases (ops : Array Oper) (dr : Bool) (bs : Array Nat) (o : Oper) (i : Nat) :
    (∃ g q, cvGuard ops o.guard = some g ∧ cvOp P o.op = some q ∧ cvOper P ops dr bs o i = { dst := o.dst, op := q, guard := g, bef := if dr then befOf (bs.getD i 0) i else [] }) ∨
    ((cvOper P ops dr bs o i).op = .bad ∧ (cvOper P ops dr bs o i).guard = none) := by
  unfold cvOper
  split
  · rename_i g q hg hq
    exact .inl ⟨g, q, hg, hq, rfl⟩
  · exact .inr ⟨rfl, rfl⟩

theorem wants_rel {ρ : Nm} {S : Nat → Prop} {H : Heap} {w : World} {E : List AV} {a : Act} (he : RelE ρ S H w E a.tmps) {ops : Array Oper} {o : Oper} {g : Option (Nat × Bool)} (hg : cvGuard ops o.guard = some g) {b : Bool}
    (h : wants E g = some b) : Region.wanted o (yielded ops a.tmps) = b := by
  unfold Region.wanted
  cases hog : o.guard with
  | none =>
    rw [hog] at hg
    simp only [cvGuard] at hg; cases hg
    simp only [wants] at h; cases h; rfl
  | some p =>
    obtain ⟨j, t⟩ := p
    rw [hog] at hg
    simp only [cvGuard] at hg
    split at hg
    · rename_i d hd
      cases hg
      simp only [wants] at h
      have hr := he.at_ d
      simp only [yielded, hd, Option.bind_some]
      split at h
      · rename_i t' ht
        cases h
        rw [ht] at hr
        have e := relA_bool hr
        have : a.tmps[d]? = some (.bool t') := by
          by_cases hlt : d < a.tmps.size
          · rw [Array.getElem?_eq_getElem hlt]; simpa [Array.getD, hlt] using e
          · simp [Array.getD, hlt, Go.undef] at e
        rw [this]
        cases t' <;> cases t <;> rfl
      · rename_i ht
        cases h
        rw [ht] at hr
        generalize hv : a.tmps.getD d Go.undef = v at hr
        cases hr with
        | tup _ vs ys h1 _ _ =>
          by_cases hlt : d < a.tmps.size
          · have : a.tmps[d]? = some (.tuple vs) := by rw [Array.getElem?_eq_getElem hlt]; simpa [Array.getD, hlt] using hv
            rw [this]; rfl
          · rw [Array.getElem?_eq_none (Nat.le_of_not_lt hlt)]; rfl
      · cases h
    · cases hg

/-- one operation of a region, carried out or left out -/
theorem oper_sound (hC : Good P X.C) {ρ : Nm} {S : Nat → Prop} {H : Heap} {w : World} {a : Act} {Q : Exit → Act → World → Prop} {next : Act → World → Prop} {ops : Array Oper} {o : Oper} {i : Nat} (ho : ops[i]? = some o)
    (hi : Inv ρ S H w) {E : List AV} (he : RelE ρ S H w E a.tmps) {g : Option (Nat × Bool)} {q : AOp} (hg : cvGuard ops o.guard = some g) (hq : cvOp P o.op = some q) {v : AV} {u : Upd} {nw : List Nat} {rid : Nat}
    (h : (wants E g = some false ∧ v = .tup [] ∧ u = [] ∧ nw = []) ∨ (wants E g = some true ∧ aop X (nameOf rid i) H (q.map (aev E)) = some (v, u, nw)))
    (hno : ∀ l ∈ nw, l ∉ refsL E ∧ ∀ m p, hget H m = some p → m ≠ l → l ∉ refsO p)
    (hn : ∀ w' y ρ' S', Step Big ρ S H w ρ' S' (applyU H u) w' → RelE ρ' S' (applyU H u) w' (putE E o.dst v) (a.put o.dst y).tmps → next (a.put o.dst y) w') :
    wpOp P ops Q i next a w := by
  unfold wpOp
  simp only [ho]
  rcases h with ⟨hw, rfl, rfl, rfl⟩ | ⟨hw, hop⟩
  · have := wants_rel he hg hw
    rw [this]
    simp only [Bool.false_eq_true, if_false]
    exact hn w _ ρ S (.refl hi) (he.put o.dst tup_undef)
  · have := wants_rel he hg hw
    rw [this]
    simp only [if_true]
    refine .inl (op_sound hC hi he hq hop hno fun w' y ρ' S' st hr => ?_)
    refine hn w' y ρ' S' (st.weaken fun l hl => Nat.le_trans (nameOf_big rid i) (aop_new hop l hl)) ?_
    exact (he.step st hi fun l hl hm => (hno l hm).1 hl).put o.dst hr

theorem fresh_spec {E : List AV} {H : Heap} {nw : List Nat} (h : freshU E H nw = true) : ∀ l ∈ nw, l ∉ refsL E ∧ ∀ m p, hget H m = some p → m ≠ l → l ∉ refsO p :=
  fun l hl => noRef_spec (List.all_eq_true.1 h l hl)

theorem aops_sound (hC : Good P X.C) {ops : Array Oper} {bs : Array Nat} {rid : Nat} {Q : Exit → Act → World → Prop} : ∀ (r : List Oper) (i : Nat) (s s' : St) (ρ : Nm) (S : Nat → Prop) (w : World) (a : Act),
    (∀ k o, r[k]? = some o → ops[i + k]? = some o) → aops X rid (cvOpers P ops false bs r i) i s = some s' → Inv ρ S s.H w → RelE ρ S s.H w s.E a.tmps →
    (∀ ρ' S' w' (a' : Act), Step Big ρ S s.H w ρ' S' s'.H w' → RelE ρ' S' s'.H w' s'.E a'.tmps → a'.defers = a.defers → Q .normal a' w') →
    wpOps P ops Q (List.range' i r.length) a w
  | [], i, s, s', ρ, S, w, a, _, h, hi, he, hn => by
    simp only [cvOpers, aops] at h
    cases h
    exact hn ρ S w a (.refl hi) he rfl
  | o :: r, i, s, s', ρ, S, w, a, hops, h, hi, he, hn => by
    have ho : ops[i]? = some o := hops 0 o rfl
    simp only [List.length_cons, List.range'_succ]
    rw [wpOps_cons]
    simp only [cvOpers, aops] at h
    have rest : ∀ {E' : List AV} {H' : Heap} {ρ1 : Nm} {S1 : Nat → Prop} {w1 : World} {a1 : Act}, aops X rid (cvOpers P ops false bs r (i + 1)) (i + 1) { E := E', H := H' } = some s' → Step Big ρ S s.H w ρ1 S1 H' w1 →
        RelE ρ1 S1 H' w1 E' a1.tmps → a1.defers = a.defers → wpOps P ops Q (List.range' (i + 1) r.length) a1 w1 := by
      intro E' H' ρ1 S1 w1 a1 h1 st1 he1 hd
      refine aops_sound hC r (i + 1) _ s' ρ1 S1 w1 a1 (fun k o hk => ?_) h1 st1.inv he1 fun ρ' S' w' a' st he' hd' => hn ρ' S' w' a' ((st1.trans st).weaken fun _ h => h.elim id id) he' (hd'.trans hd)
      have := hops (k + 1) o (by simpa using hk)
      rwa [show i + 1 + k = i + (k + 1) by omega]
    rcases cvOper_cases (P := P) ops false bs o i with ⟨g, q, hg, hq, hcv⟩ | ⟨hbad, hgn⟩
    · rw [hcv] at h
      simp only at h
      split at h
      · cases h
      · rename_i hw
        refine oper_sound hC ho hi he hg hq (rid := rid) (.inl ⟨hw, rfl, rfl, rfl⟩) (fun l hl => by simp at hl) fun w' y ρ' S' st he' => ?_
        exact rest h st he' (by cases o.dst <;> rfl)
      · rename_i hw
        split at h
        · cases h
        · rename_i v u nw hop
          split at h
          · rename_i hf
            refine oper_sound hC ho hi he hg hq (rid := rid) (.inr ⟨hw, hop⟩) (fresh_spec hf) fun w' y ρ' S' st he' => ?_
            exact rest h st he' (by cases o.dst <;> rfl)
          · cases h
    · rw [hbad, hgn] at h
      simp [wants, AOpOf.map, aop] at h

end
end Bz

/- What an operation looks at: its operands, and the objects that they name. -/
namespace Bz
open Go

section
variable {X : Ctx} {H H' : Heap}

theorem vwD_local {v : AV} (h : ∀ l ∈ refs v, hget H' l = hget H l) : vwD H' v = vwD H v := by
  cases v <;> simp only [vwD]
  rw [h _ (by simp [refs])]

theorem vwDs_local : ∀ {vs : List AV}, (∀ l ∈ refsL vs, hget H' l = hget H l) → vwDs H' vs = vwDs H vs
  | [], _ => rfl
  | v :: r, h => by
    simp only [vwDs]
    rw [vwD_local fun l hl => h l (by simp [refsL, hl]), vwDs_local fun l hl => h l (by simp [refsL, hl])]

theorem refsL_cells (v : AV) : ∀ l ∈ refsL (cellsOf v), l ∈ refs v := by
  intro l hl
  cases v <;> simp [cellsOf, refsL, refs] at hl ⊢ <;> exact hl

theorem arrs_refs {v : AV} : ∀ l ∈ arrsOf v, l ∈ refs v := by
  intro l hl
  cases v with
  | os => simpa [arrsOf, refs] using hl
  | agg cs =>
    simp only [arrsOf, refs] at hl ⊢
    obtain ⟨c, hc, hl⟩ := List.mem_flatMap.1 hl
    obtain ⟨i, hi⟩ := List.getElem?_of_mem hc
    refine refsL_mem hi l ?_
    cases c <;> simp [refs] at hl ⊢
    exact hl
  | _ => simp [arrsOf] at hl

theorem arrs_refsL {vs : List AV} : ∀ l ∈ vs.flatMap arrsOf, l ∈ refsL vs := by
  intro l hl
  obtain ⟨c, hc, hl⟩ := List.mem_flatMap.1 hl
  obtain ⟨i, hi⟩ := List.getElem?_of_mem hc
  exact refsL_mem hi l (arrs_refs l hl)

theorem frz_local {ls : List Nat} (h : ∀ l ∈ ls, hget H' l = hget H l) : frz H' ls = frz H ls := by
  induction ls with
  | nil => rfl
  | cons a r ih =>
    simp only [frz, List.filterMap_cons]
    rw [h a (by simp)]
    have := ih fun l hl => h l (by simp [hl])
    simp only [frz] at this
    rw [this]

theorem vw_local {v : AV} (h : ∀ l ∈ refs v, hget H' l = hget H l) : vw H' v = vw H v := by
  cases v <;> simp only [vw]
  · rw [vwD_local h]
  · rw [vwDs_local fun l hl => h l (by simpa [refs] using hl)]

theorem vws_local : ∀ {vs : List AV}, (∀ l ∈ refsL vs, hget H' l = hget H l) → vws H' vs = vws H vs
  | [], _ => rfl
  | v :: r, h => by
    simp only [vws]
    rw [vw_local fun l hl => h l (by simp [refsL, hl]), vws_local fun l hl => h l (by simp [refsL, hl])]

theorem liveA_local {v : AV} (h : ∀ l ∈ refs v, hget H' l = hget H l) : liveA H' v = liveA H v := by
  cases v <;> simp only [liveA] <;> rw [h _ (by simp [refs])]

theorem rowLen_local {sz : Nat} {v : AV} (h : ∀ l ∈ refs v, hget H' l = hget H l) : rowLen H' sz v = rowLen H sz v := by
  cases v <;> simp only [rowLen]
  · rename_i d; cases d <;> rfl
  · rw [h _ (by simp [refs])]

theorem rowOf_local {sz : Nat} {v : AV} (h : ∀ l ∈ refs v, hget H' l = hget H l) : rowOf H' sz v = rowOf H sz v := by
  unfold rowOf
  split
  · rfl
  · exact rowLen_local h

theorem szAt_local {sz l : Nat} (h : hget H' l = hget H l) : szAt H' sz l = szAt H sz l := by unfold szAt; rw [h]

theorem fillRow_local {sz : Nat} : ∀ {ps : List (Nat × AV)} {es : List (List D)}, (∀ l ∈ refsL (ps.map (·.2)), hget H' l = hget H l) → fillRow H' sz es ps = fillRow H sz es ps
  | [], _, _ => rfl
  | (i, v) :: r, es, h => by
    simp only [fillRow]
    rw [vwDs_local (H := H) (H' := H') (vs := cellsOf v) fun l hl => h l (by simp [refsL, refsL_cells v l hl])]
    have : ∀ es, fillRow H' sz es r = fillRow H sz es r := fun es => fillRow_local fun l hl => h l (by simp only [List.map_cons, refsL, List.mem_append]; exact .inr hl)
    simp only [this]

theorem reach_sub (H : Heap) : ∀ (k : Nat) (ls seen : List Nat), ∀ l ∈ seen, l ∈ reach H k ls seen
  | 0, _, _, l, h => h
  | _ + 1, [], _, l, h => h
  | k + 1, a :: r, seen, l, h => by
    simp only [reach]
    split
    · exact reach_sub H k r seen l h
    · split <;> exact reach_sub H k _ _ l (by simp [h])

theorem reach_local : ∀ (k : Nat) (ls seen : List Nat), (∀ l ∈ reach H k ls seen, hget H' l = hget H l) → reach H' k ls seen = reach H k ls seen
  | 0, _, _, _ => rfl
  | _ + 1, [], _, _ => rfl
  | k + 1, a :: r, seen, h => by
    simp only [reach] at h ⊢
    split
    · rename_i hc
      rw [if_pos hc] at h
      exact reach_local k r seen h
    · rename_i hc
      rw [if_neg hc] at h
      have ha : hget H' a = hget H a := by
        apply h
        split <;> exact reach_sub H k _ _ a (by simp)
      rw [ha]
      split at h
      · rename_i e; exact reach_local k r _ h
      · exact reach_local k _ _ h

theorem pack_local {g : Nat → Nat} : ∀ {i : Nat} {L : List Nat}, (∀ l ∈ L, hget H' l = hget H l) → pack H' g i L = pack H g i L
  | _, [], _ => rfl
  | i, l :: r, h => by
    simp only [pack]
    rw [h l (by simp), pack_local (i := i + 1) fun l hl => h l (by simp [hl])]

theorem hget_map_mem {u : Upd} {l : Nat} (h : l ∈ u.map (·.1)) : ∃ o, hget u l = some o := by
  obtain ⟨x, hx, rfl⟩ := List.mem_map.1 h
  exact Option.isSome_iff_exists.1 (hget_of_mem hx)

theorem applyU_local (u : Upd) : ∀ {H H' : Heap} {l : Nat}, (l ∈ u.map (·.1) ∨ hget H' l = hget H l) → hget (applyU H' u) l = hget (applyU H u) l := by
  induction u with
  | nil => intro H H' l h; simpa [applyU] using h
  | cons p r ih =>
    intro H H' l h
    show hget (applyU (hset H' p.1 p.2) r) l = hget (applyU (hset H p.1 p.2) r) l
    apply ih
    by_cases e : l = p.1
    · subst e; right; rw [hget_set_self, hget_set_self]
    · rcases h with h | h
      · simp only [List.map_cons, List.mem_cons] at h
        exact .inl (h.resolve_left e)
      · right; rw [hget_set_ne _ _ e, hget_set_ne _ _ e]; exact h

theorem applyU_other (u : Upd) : ∀ {H : Heap} {l : Nat}, l ∉ u.map (·.1) → hget (applyU H u) l = hget H l := by
  induction u with
  | nil => intro H l _; rfl
  | cons p r ih =>
    intro H l h
    simp only [List.map_cons, List.mem_cons, not_or] at h
    show hget (applyU (hset H p.1 p.2) r) l = hget H l
    rw [ih h.2, hget_set_ne _ _ h.1]

theorem acall_local {nm : Nat} {f : Nat} {args : List AV} {v : AV} {u : Upd} {nw : List Nat} (h : acall X nm H f args = some (v, u, nw))
    (hag : ∀ l, l ∈ refsL args ∨ l ∈ u.map (·.1) → hget H' l = hget H l) : acall X nm H' f args = some (v, u, nw) := by
  have e1 : vws H' args = vws H args := vws_local fun l hl => hag l (.inl hl)
  have e2 : frz H' (args.flatMap arrsOf) = frz H (args.flatMap arrsOf) := frz_local fun l hl => hag l (.inl (arrs_refsL l hl))
  unfold acall at h ⊢
  rw [e1, e2]
  split at h
  · cases h
  · rename_i as has
    simp only at h ⊢
    generalize (if X.own f = true then ([] : Upd) else frz H (args.flatMap arrsOf)) = lent at h ⊢
    have e3 : (∀ l ∈ reach (applyU H lent) RF (refsL as) [], hget (applyU H' lent) l = hget (applyU H lent) l) := by
      intro l hl
      split at h
      · cases h
      · split at h
        · cases h
        · rename_i q hq rv Ho hcall
          split at h
          · rename_i hc
            simp only [Bool.and_eq_true, List.isEmpty_iff] at hc
            rw [hc.1.1] at hl; simp at hl
          · split at h
            · rename_i hc
              cases h
              simp only [Bool.and_eq_true, backOK] at hc
              obtain ⟨⟨⟨_, hall⟩, _⟩, _⟩ := hc
              apply applyU_local
              by_cases hlent : l ∈ lent.map (·.1)
              · exact .inl hlent
              · right
                refine hag l (.inr ?_)
                generalize reach (applyU H lent) RF (refsL as) [] = L at *
                have hj := List.all_eq_true.1 hall (L.idxOf l) (List.mem_range.2 (List.idxOf_lt_length_of_mem hl))
                obtain ⟨o, _, hmem⟩ := hget_dom hj
                rw [List.map_append, List.map_map]
                refine List.mem_append_right _ (List.mem_map.2 ⟨_, hmem, ?_⟩)
                simp only [Function.comp]
                rw [if_pos (List.idxOf_lt_length_of_mem hl), List.getD, idx_get hl]; rfl
            · cases h
    rw [reach_local _ _ _ e3, pack_local e3]
    exact h

theorem isO_local {v : AV} (h : ∀ l ∈ refs v, hget H' l = hget H l) : isO H' v = isO H v := by
  cases v <;> simp only [isO]
  rw [h _ (by simp [refs])]
theorem isOs_local : ∀ {vs : List AV}, (∀ l ∈ refsL vs, hget H' l = hget H l) → vs.any (isO H') = vs.any (isO H)
  | [], _ => rfl
  | v :: r, h => by
    simp only [List.any_cons]
    rw [isO_local fun l hl => h l (by simp [refsL, hl]), isOs_local fun l hl => h l (by simp [refsL, hl])]
theorem isOV_local {v : AV} (h : ∀ l ∈ refs v, hget H' l = hget H l) : isOV H' v = isOV H v := by
  cases v with
  | agg cs => exact isOs_local h
  | _ => exact isO_local h
theorem isOVs_local : ∀ {vs : List AV}, (∀ l ∈ refsL vs, hget H' l = hget H l) → vs.any (isOV H') = vs.any (isOV H)
  | [], _ => rfl
  | v :: r, h => by
    simp only [List.any_cons]
    rw [isOV_local fun l hl => h l (by simp [refsL, hl]), isOVs_local fun l hl => h l (by simp [refsL, hl])]
theorem vwDO_local {v : AV} (h : ∀ l ∈ refs v, hget H' l = hget H l) : vwDO H' v = vwDO H v := by
  unfold vwDO
  split
  · rw [h _ (by simp [refs])]
    rw [vwD_local h]
  · exact vwD_local h
theorem vwDOs_local : ∀ {vs : List AV}, (∀ l ∈ refsL vs, hget H' l = hget H l) → vwDOs H' vs = vwDOs H vs
  | [], _ => rfl
  | v :: r, h => by
    simp only [vwDOs]
    rw [vwDO_local fun l hl => h l (by simp [refsL, hl]), vwDOs_local fun l hl => h l (by simp [refsL, hl])]
theorem vwO_local {v : AV} (h : ∀ l ∈ refs v, hget H' l = hget H l) : vwO H' v = vwO H v := by
  cases v with
  | agg cs => simp only [vwO]; rw [vwDOs_local h]
  | _ => simp only [vwO]; rw [vwDO_local h]
theorem vwsO_local : ∀ {vs : List AV}, (∀ l ∈ refsL vs, hget H' l = hget H l) → vwsO H' vs = vwsO H vs
  | [], _ => rfl
  | v :: r, h => by
    simp only [vwsO]
    rw [vwO_local fun l hl => h l (by simp [refsL, hl]), vwsO_local fun l hl => h l (by simp [refsL, hl])]

theorem aop_local {nm : Nat} {op : AOpOf AV} {v : AV} {u : Upd} {nw : List Nat} (h : aop X nm H op = some (v, u, nw))
    (hag : ∀ l, l ∈ rd op ∨ l ∈ u.map (·.1) → hget H' l = hget H l) : aop X nm H' op = some (v, u, nw) := by
  have hr : ∀ l ∈ rd op, hget H' l = hget H l := fun l hl => hag l (.inl hl)
  cases op
  case call f args =>
    simp only [aop] at h ⊢
    split at h
    · rename_i g caps
      have hra : ∀ l ∈ refsL (args ++ caps), hget H' l = hget H l := fun l hl => by
        apply hr
        simp only [rd, refs, List.mem_append]
        obtain ⟨i, x, hx, hlx⟩ := refsL_mem' hl
        rw [List.getElem?_append] at hx
        split at hx
        · exact .inr (refsL_mem hx l hlx)
        · exact .inl (refsL_mem hx l hlx)
      rw [isOVs_local hra]
      split at h
      · rename_i hc
        rw [if_pos hc]
        unfold acallD at h ⊢
        rw [vwsO_local hra]; exact h
      rename_i hc
      rw [if_neg hc]
      refine acall_local h fun l hl => ?_
      rcases hl with hl | hl
      · apply hr
        simp only [rd, refs, List.mem_append]
        obtain ⟨i, x, hx, hlx⟩ := refsL_mem' hl
        rw [List.getElem?_append] at hx
        split at hx
        · exact .inr (refsL_mem hx l hlx)
        · exact .inl (refsL_mem hx l hlx)
      · exact hag l (.inr hl)
    · cases h
  case load sz ag x =>
    simp only [aop] at h ⊢
    have : aload H' sz ag x = aload H sz ag x := by
      cases x <;> simp only [aload] <;> rw [hr _ (by simp [rd, refs])]
    have e2 : ∀ v, putAt H' v x = putAt H v x := fun v => by
      cases x <;> simp only [putAt] <;> rw [hr _ (by simp [rd, refs])]
    have e3 : ∀ v, aopen X.deep nm H' x v = aopen X.deep nm H x v := fun v => by
      unfold aopen
      split
      · simp only [e2]
      · rfl
    have e4 : aopen X.deep nm H' x = aopen X.deep nm H x := funext e3
    rw [this, e4]; exact h
  case store sz a x =>
    simp only [aop] at h ⊢
    have : astore H' sz a x = astore H sz a x := by
      have e1 : frz H' ((cellsOf x).flatMap arrsOf) = frz H ((cellsOf x).flatMap arrsOf) := frz_local fun l hl => hr l (by simp only [rd, List.mem_append]; exact .inr (refsL_cells x l (arrs_refsL l hl)))
      have e2 : vwDs H' (cellsOf x) = vwDs H (cellsOf x) := vwDs_local fun l hl => hr l (by simp only [rd, List.mem_append]; exact .inr (refsL_cells x l hl))
      simp only [astore, e1, e2]
      cases a <;> simp only <;> rw [hr _ (by simp [rd, refs])]
    rw [this]; exact h
  case buildSl sz z len ps =>
    simp only [aop] at h ⊢
    rw [fillRow_local hr, frz_local fun l hl => hr l ?_]
    · exact h
    · obtain ⟨p, hp, hl⟩ := List.mem_flatMap.1 hl
      obtain ⟨i, hi⟩ := List.getElem?_of_mem hp
      exact refsL_mem (i := i) (x := p.2) (by simp [hi]) l (refsL_cells _ l (arrs_refsL l hl))
  case isnil k neg x => simp only [aop] at h ⊢; rw [liveA_local hr]; exact h
  case nilchk x => simp only [aop] at h ⊢; rw [liveA_local hr]; exact h
  case slice sz x lo hi mx =>
    simp only [aop] at h ⊢
    have : aslice sz H' x lo hi mx = aslice sz H x lo hi mx := by
      unfold aslice
      split
      · rfl
      · rw [szAt_local (hr _ (by simp [rd, refs]))]
      · rfl
    rw [liveA_local hr, this]; exact h
  case faddr off x => simp only [aop] at h ⊢; rw [liveA_local hr]; exact h
  case iaddr sz x i =>
    simp only [aop] at h ⊢
    have : aindex sz H' x i = aindex sz H x i := by
      unfold aindex
      split
      · rfl
      · rw [szAt_local (hr _ (by simp [rd, refs]))]
      · rfl
    rw [liveA_local hr, this]; exact h
  case lookup ag ks z x k ok =>
    simp only [aop] at h ⊢
    have : alookup H' ag ks x k = alookup H ag ks x k := by
      unfold alookup
      split
      · split
        · rfl
        · rw [hr _ (by simp [rd, refs])]
        · rfl
      · rfl
    rw [this]; exact h
  case mapupd ag ks m k x =>
    simp only [aop] at h ⊢
    have : amapupd H' ag ks m k x = amapupd H ag ks m k x := by
      have e1 : vw H' x = vw H x := vw_local fun l hl => hr l (by simp [rd, hl])
      have e2 : frz H' (arrsOf x) = frz H (arrsOf x) := frz_local fun l hl => hr l (by simp [rd, arrs_refs l hl])
      simp only [amapupd, e1, e2]
      cases m <;> simp only <;> rw [hr _ (by simp [rd, refs])]
    rw [this]; exact h
  case len k x =>
    simp only [aop] at h ⊢
    have : alen H' k x = alen H k x := by
      unfold alen
      split
      · rfl
      · rfl
      · rfl
      · rfl
      · rfl
      · rw [hr _ (by simp [rd, refs])]
      · rfl
    rw [liveA_local hr, this]; exact h
  case iarr n sz x i => simp only [aop] at h ⊢; rw [liveA_local hr]; exact h
  case append sz x y =>
    simp only [aop] at h ⊢
    have i1 : isO H' x = isO H x := by cases x <;> simp only [isO]; rw [hr _ (by simp [rd, refs])]
    have i2 : isO H' y = isO H y := by cases y <;> simp only [isO]; rw [hr _ (by simp [rd, refs])]
    have i3 : rowsO H' sz y = rowsO H sz y := by
      unfold rowsO
      split
      · rw [hr _ (by simp [rd, refs])]
      · rfl
    have i4 : ∀ ys, aappendO nm H' sz x ys = aappendO nm H sz x ys := by
      intro ys
      unfold aappendO
      split
      · rfl
      · rw [hr _ (by simp [rd, refs])]
      · rfl
    rw [i1, i2, i3]; simp only [i4]
    have e1 : rowOf H' sz y = rowOf H sz y := rowOf_local fun l hl => hr l (by simp [rd, hl])
    have e2 : ∀ ys, aappend nm H' sz x ys = aappend nm H sz x ys := by
      intro ys
      unfold aappend
      split
      · rfl
      · rw [hr _ (by simp [rd, refs])]
      · rfl
    rw [e1]; simp only [e2]; exact h
  case copy sz x y =>
    simp only [aop] at h ⊢
    have e1 : rowOf H' sz y = rowOf H sz y := rowOf_local fun l hl => hr l (by simp [rd, hl])
    have e2 : ∀ ys, acopy H' sz x ys = acopy H sz x ys := by
      intro ys
      unfold acopy
      split
      · rw [hr _ (by simp [rd, refs])]
      · rfl
    rw [e1]; simp only [e2]; exact h
  case clear z x =>
    simp only [aop] at h ⊢
    split at h
    · rw [hr _ (by simp [rd, refs])]; exact h
    · exact h
    · cases h
  case delete ag ks m k =>
    simp only [aop] at h ⊢
    have : adelete H' ag ks m k = adelete H ag ks m k := by
      unfold adelete
      split
      · split
        · rw [hr _ (by simp [rd, refs])]
        · rfl
        · rfl
      · rfl
    rw [this]; exact h
  case toStr x => simp only [aop] at h ⊢; rw [rowLen_local hr]; exact h
  all_goals exact h
end
end Bz
