/-
  Vx, part u: what comes in reads as data, and reads so behind the call.
-/
import Derived.Test.YthdjomfkechfoaaVt
import Derived.ProofKit
import Derived.WalkKit
import Derived.OpenShut
import Derived.ChangeOld
import Derived.Below
import Derived.SizedLaws
import Derived.Deep.Slices
namespace Go.Proofs.Ythdjomfkechfoaa.Vx
open Go Go.RowKit Go.ChangeShapes Go.WideShapes
set_option linter.unusedSimpArgs false
set_option linter.unusedVariables false

def yes : Nat → Nat → Prop := fun _ _ => True

mutual
def CT.bytes : CT → Nat
  | .int k => k.bits / 8
  | .bool => 1
  | .str => 16
  | .sl _ => 24
def Lay.bytes : Lay → Nat
  | .one c => c.bytes
  | .cons c l => c.bytes + l.bytes
end

mutual
def CT.okT (P : Program) : CT → TypeId → Bool
  | .int k, t => (match P.underlying t with
    | some (.int k') => kbeq k' k
    | _ => false)
  | .bool, t => (match P.underlying t with
    | some .bool => true
    | _ => false)
  | .str, t => (match P.underlying t with
    | some .string => true
    | _ => false)
  | .sl l, t => (match P.underlying t with
    | some (.slice e) => l.okT P e && (Nat.beq (P.cellsOf e) l.size && Nat.ble l.bytes (P.bytesOf e))
    | _ => false)
def Lay.okT (P : Program) : Lay → TypeId → Bool
  | .one c, e => c.okT P e
  | .cons c l, e => (match P.underlying e with
    | some (.struct fs) => (match fs.toList with
      | f :: r => ((Nat.beq f.offset 0 && Nat.beq (P.cellsOf f.type) 1) && c.okT P f.type) && (l.okF P r 1 && Nat.beq (P.cellsOf e) (l.size + 1))
      | [] => false)
    | _ => false)
def Lay.okF (P : Program) : Lay → List Field → Nat → Bool
  | .one c, [f], k => (Nat.beq f.offset k && Nat.beq (P.cellsOf f.type) 1) && c.okT P f.type
  | .cons c l, f :: r, k => ((Nat.beq f.offset k && Nat.beq (P.cellsOf f.type) 1) && c.okT P f.type) && l.okF P r (k + 1)
  | _, _, _ => false
end

mutual
def CT.fits : (c : CT) → c.den → Prop
  | .int k, n => (Lit.int k n).wf = true
  | .bool, _ => True
  | .str, s => ByteArray.size s ≤ 140737488351232
  | .sl l, xs => List.length xs * l.bytes ≤ 140737488351232 ∧ ∀ x ∈ xs, l.fits x
def Lay.fits : (l : Lay) → l.den → Prop
  | .one c, x => c.fits x
  | .cons c l, x => c.fits x.1 ∧ l.fits x.2
end

def DenFits : (ts : List TY) → Den ts → Prop
  | [], _ => True
  | t :: ts, x => t.lay.fits x.1 ∧ DenFits ts x.2

section
variable {H : Type} {enc : TypeId × Value → H} {P : Program} {w : World} {spare : Nat → Bool} {held : Bool}

theorem cells_get {a : Addr} {n : Nat} {cs : List Value} (h : w.cells? 0 a n = some cs) : cs.length = n ∧ ∀ i v, cs[i]? = some v → w.cell? (a.add i) = some v := by
  obtain ⟨_, h1, h2⟩ := World.cells?_some h
  refine ⟨h1, fun i v hv => ?_⟩
  rw [h2 i (by have := (List.getElem?_eq_some_iff.1 hv).1; omega), hv]

theorem cell_spot {a : Addr} {v : Value} (h : w.cell? a = some v) : a = ⟨a.block, a.off, none⟩ := by
  unfold World.cell? at h
  obtain ⟨b, o, s⟩ := a
  split at h
  · cases s
    · rfl
    · simp at h
  · cases h

theorem list_of_all {α : Type} {n : Nat} {p : Nat → α → Prop} (h : ∀ i, i < n → ∃ x, p i x) : ∃ xs : List α, xs.length = n ∧ ∀ i x, xs[i]? = some x → p i x := by
  induction n with
  | zero => exact ⟨[], rfl, fun i x hx => by simp at hx⟩
  | succ n ih =>
    obtain ⟨xs, h1, h2⟩ := ih (fun i hi => h i (by omega))
    obtain ⟨y, hy⟩ := h n (by omega)
    refine ⟨xs ++ [y], by simp [h1], fun i x hx => ?_⟩
    by_cases hi : i < xs.length
    · rw [List.getElem?_append_left hi] at hx; exact h2 i x hx
    · rw [List.getElem?_append_right (by omega)] at hx
      have : i - xs.length = 0 := by
        cases hd : i - xs.length with
        | zero => rfl
        | succ m => rw [hd] at hx; simp at hx
      rw [this] at hx
      simp at hx
      subst hx
      have : i = n := by omega
      rw [this]; exact hy

theorem weights_elems {e : TypeId} : ∀ (ds : List (DataW H)), (∀ n ∈ DataW.weightsAll P e ds, n ≤ reachBytes) → ∀ d ∈ ds, ∀ n ∈ d.weights P e, n ≤ reachBytes
  | [], _, d, hd => by cases hd
  | x :: ds, h, d, hd => by
    simp only [DataW.weightsAll, List.mem_append] at h
    rcases List.mem_cons.1 hd with e | hd
    · subst e; exact fun n hn => h n (.inl hn)
    · exact weights_elems ds (fun n hn => h n (.inr hn)) d hd

mutual
theorem CT.open_ : (c : CT) → (t : TypeId) → c.okT P t = true → ∀ (fuel : Nat) (cs : List Value) (y : DataW H × List MemPlace), DataW.trod enc P w 0 spare held fuel t cs = some y →
    (∀ n ∈ y.1.weights P t, n ≤ reachBytes) → ∃ v x, cs = [v] ∧ c.rep w yes x v ∧ c.fits x
  | .int k, t, hk, fuel, cs, y, h, hw => by
    unfold CT.okT at hk
    split at hk
    · rename_i k' hu
      have e := kbeq_eq hk
      subst e
      obtain ⟨n, h1, _, h3⟩ := DataW.trod_int hu h
      exact ⟨_, n, h1, rfl, h3⟩
    · cases hk
  | .bool, t, hk, fuel, cs, y, h, hw => by
    unfold CT.okT at hk
    split at hk
    · rename_i hu
      obtain ⟨b, h1, _⟩ := DataW.trod_bool hu h
      exact ⟨_, b, h1, rfl, trivial⟩
    · cases hk
  | .str, t, hk, fuel, cs, y, h, hw => by
    unfold CT.okT at hk
    split at hk
    · rename_i hu
      obtain ⟨s, h1, h2, _⟩ := DataW.trod_string hu h
      refine ⟨_, s, h1, rfl, ?_⟩
      rw [h2] at hw
      have := hw s.data.toList.length (by show _ ∈ [s.data.toList.length]; exact List.mem_singleton.2 rfl)
      show s.size ≤ 140737488351232
      have e : s.size = s.data.toList.length := rfl
      rw [e]; exact this
    · cases hk
  | .sl l, t, hk, fuel, cs, y, h, hw => by
    unfold CT.okT at hk
    split at hk
    · rename_i e hu
      simp only [Bool.and_eq_true] at hk
      obtain ⟨hl, hc, hb⟩ := hk
      have hc := Nat.eq_of_beq_eq_true hc
      have hb := Nat.le_of_ble_eq_true hb
      rcases Deep.open_slice hu h with ⟨h1, h2⟩ | ⟨a, len, cap, m, n, D, Pl, h1, _, hle, _, hm, hy, hall⟩
      · exact ⟨_, ([] : List l.den), h1, ⟨none, 0, rfl, Nat.le_refl _, fun h => by simp at h⟩, by rw [List.length_nil, Nat.zero_mul]; exact Nat.zero_le _, fun x hx => by cases hx⟩
      · have hml : len ≤ m := by rw [hm]; split <;> omega
        rw [hy] at hw
        simp only [DataW.weights, hu, List.mem_cons, List.mem_append] at hw
        have hsz := hw _ (.inl rfl)
        simp only [List.length_map, List.length_range] at hsz
        have hel : ∀ i, i < len → ∀ q ∈ (D i).weights P e, q ≤ reachBytes := fun i hi q hq =>
          weights_elems ((List.range len).map D) (fun q hq => hw q (.inr (.inl hq))) (D i) (List.mem_map.2 ⟨i, List.mem_range.2 hi, rfl⟩) q hq
        obtain ⟨xs, hxl, hxs⟩ := list_of_all (α := l.den) (n := len) (p := fun i x => ∃ vs, l.vals w yes x vs ∧ vs.length = l.size ∧ (∀ j v, vs[j]? = some v → w.cell? (a.add (i * l.size + j)) = some v) ∧ l.fits x) (fun i hi => by
          obtain ⟨cs', h2, h3⟩ := hall i (by omega)
          obtain ⟨h4, h5⟩ := cells_get h2
          obtain ⟨x, h6, h7⟩ := Lay.open_ l e hl n cs' (D i, Pl i) h3 (hel i hi)
          refine ⟨x, cs', h6, by rw [h4, hc], fun j v hj => ?_, h7⟩
          have := h5 j v hj
          rw [Deep.add_add, hc] at this
          exact this)
        refine ⟨_, xs, h1, ⟨some a, cap, by rw [hxl], by rw [hxl]; exact hle, fun hp => ?_⟩, ?_, fun x hx => ?_⟩
        · rw [hxl] at hp
          have hsp := Lay.size_pos l
          have ha : a = ⟨a.block, a.off, none⟩ := by
            obtain ⟨vs, h2, h3, h4, _⟩ := hxs 0 xs[0] (by simp [hxl, hp])
            have : vs[0]? = some (vs[0]'(by omega)) := by simp [h3, hsp]
            have := h4 0 _ this
            simp only [Nat.zero_mul, Nat.add_zero] at this
            unfold Addr.add at this
            simp only [if_true] at this
            exact cell_spot this
          refine ⟨a.block, a.off, by rw [← ha], fun i x hx => ?_⟩
          obtain ⟨vs, h2, h3, h4, _⟩ := hxs i x hx
          refine (Lay.lies_iff l x _ _).2 ⟨vs, h2, fun j v hj => ⟨?_, trivial⟩⟩
          have := h4 j v hj
          rw [ha] at this
          rw [Addr.add_lit] at this
          rw [Nat.add_assoc]; exact this
        · show xs.length * l.bytes ≤ 140737488351232
          rw [hxl]
          have h8 : len * l.bytes ≤ (len + (m - len)) * P.bytesOf e := Nat.mul_le_mul (by omega) hb
          exact Nat.le_trans h8 hsz
        · obtain ⟨i, hi⟩ := List.getElem?_of_mem hx
          exact (hxs i x hi).choose_spec.2.2.2
    · cases hk
theorem Lay.open_ : (l : Lay) → (e : TypeId) → l.okT P e = true → ∀ (fuel : Nat) (cs : List Value) (y : DataW H × List MemPlace), DataW.trod enc P w 0 spare held fuel e cs = some y →
    (∀ n ∈ y.1.weights P e, n ≤ reachBytes) → ∃ x, l.vals w yes x cs ∧ l.fits x
  | .one c, e, hk, fuel, cs, y, h, hw => by
    unfold Lay.okT at hk
    obtain ⟨v, x, h1, h2, h3⟩ := CT.open_ c e hk fuel cs y h hw
    exact ⟨x, ⟨v, h1, h2⟩, h3⟩
  | .cons c l, e, hk, fuel, cs, y, h, hw => by
    unfold Lay.okT at hk
    split at hk
    · rename_i fs hu
      obtain ⟨xs, n, _, hy, hlen, hxl, hxs⟩ := DataW.trod_struct hu h
      split at hk
      · rename_i f r hfs
        simp only [Bool.and_eq_true] at hk
        obtain ⟨⟨⟨ho, hc1⟩, hct⟩, hr, hsz⟩ := hk
        have ho := Nat.eq_of_beq_eq_true ho
        have hc1 := Nat.eq_of_beq_eq_true hc1
        have hsz := Nat.eq_of_beq_eq_true hsz
        have hfi : ∀ (i : Nat) (g : Field), (f :: r)[i]? = some g → fs[i]? = some g := fun i g hg => by rw [← hfs] at hg; simpa using hg
        have hxl' : xs.length = r.length + 1 := by
          have : fs.toList.length = r.length + 1 := by rw [hfs]; rfl
          rw [hxl]; simpa using this
        cases xs with
        | nil => simp at hxl'
        | cons z zs =>
          have hz := hxs 0 f (hfi 0 f rfl)
          simp only [List.getElem?_cons_zero] at hz
          rw [hy] at hw
          simp only [DataW.weights, hu, hfs, List.map_cons, DataW.weightsEach, List.mem_append] at hw
          rw [ho, hc1] at hz
          obtain ⟨v, x, h1, h2, h3⟩ := CT.open_ c f.type hct n _ z hz (fun q hq => hw q (.inl hq))
          obtain ⟨x', h4, h5⟩ := Lay.openF l r 1 hr n cs zs (by simpa using hxl') (fun i g hg => by
            have := hxs (i + 1) g (hfi (i + 1) g (by simpa using hg))
            simpa using this) (by rw [hlen, hsz]; omega) (fun q hq => hw q (.inr hq))
          refine ⟨(x, x'), ⟨v, cs.drop 1, ?_, h2, h4⟩, h3, h5⟩
          cases cs with
          | nil => simp at hlen; omega
          | cons u us => simp at h1 ⊢; exact h1
      · cases hk
    · cases hk
theorem Lay.openF : (l : Lay) → (fs : List Field) → (k : Nat) → l.okF P fs k = true → ∀ (fuel : Nat) (cs : List Value) (ys : List (DataW H × List MemPlace)),
    ys.length = fs.length → (∀ (i : Nat) (f : Field), fs[i]? = some f → DataW.trod enc P w 0 spare held fuel f.type ((cs.drop f.offset).take (P.cellsOf f.type)) = ys[i]?) → cs.length = k + l.size →
    (∀ n ∈ DataW.weightsEach P (fs.map (·.type)) (ys.map (·.1)), n ≤ reachBytes) → ∃ x, l.vals w yes x (cs.drop k) ∧ l.fits x
  | .one c, [f], k, hk, fuel, cs, ys, hyl, h, hlen, hw => by
    unfold Lay.okF at hk
    simp only [Bool.and_eq_true] at hk
    obtain ⟨⟨ho, hc1⟩, hct⟩ := hk
    have ho := Nat.eq_of_beq_eq_true ho
    have hc1 := Nat.eq_of_beq_eq_true hc1
    match ys, hyl with
    | [z], _ =>
      have hz := h 0 f rfl
      simp only [List.getElem?_cons_zero] at hz
      simp only [List.map_cons, DataW.weightsEach, List.mem_append] at hw
      rw [ho, hc1] at hz
      obtain ⟨v, x, h1, h2, h3⟩ := CT.open_ c f.type hct fuel _ z hz (fun q hq => hw q (.inl hq))
      refine ⟨x, ⟨v, ?_, h2⟩, h3⟩
      simp only [Lay.size] at hlen
      have hd : (cs.drop k).length = 1 := by simp; omega
      rw [List.take_of_length_le (by omega)] at h1
      exact h1
  | .cons c l, f :: r, k, hk, fuel, cs, ys, hyl, h, hlen, hw => by
    unfold Lay.okF at hk
    simp only [Bool.and_eq_true] at hk
    obtain ⟨⟨⟨ho, hc1⟩, hct⟩, hr⟩ := hk
    have ho := Nat.eq_of_beq_eq_true ho
    have hc1 := Nat.eq_of_beq_eq_true hc1
    match ys, hyl with
    | z :: zs, hyl =>
      have hz := h 0 f rfl
      simp only [List.getElem?_cons_zero] at hz
      simp only [List.map_cons, DataW.weightsEach, List.mem_append] at hw
      rw [ho, hc1] at hz
      simp only [Lay.size] at hlen
      obtain ⟨v, x, h1, h2, h3⟩ := CT.open_ c f.type hct fuel _ z hz (fun q hq => hw q (.inl hq))
      obtain ⟨x', h4, h5⟩ := Lay.openF l r (k + 1) hr fuel cs zs (by simpa using hyl) (fun i g hg => by simpa using h (i + 1) g (by simpa using hg)) (by omega) (fun q hq => hw q (.inr hq))
      refine ⟨(x, x'), ⟨v, cs.drop (k + 1), ?_, h2, h4⟩, h3, h5⟩
      have hd : cs.drop k = (cs.drop k).take 1 ++ cs.drop (k + 1) := by
        rw [show cs.drop (k + 1) = (cs.drop k).drop 1 by simp, List.take_append_drop]
      rw [hd, h1]
      rfl
  | .one c, [], k, hk, fuel, cs, ys, hyl, h, hlen, hw => by simp [Lay.okF] at hk
  | .one c, _ :: _ :: _, k, hk, fuel, cs, ys, hyl, h, hlen, hw => by simp [Lay.okF] at hk
  | .cons c l, [], k, hk, fuel, cs, ys, hyl, h, hlen, hw => by simp [Lay.okF] at hk
end

def TY.okT (P : Program) : TY → TypeId → Bool
  | .sc c, t => c.okT P t
  | .st (.cons c l), t => Lay.okT P (.cons c l) t
  | .st (.one _), _ => false

theorem TY.open_ {y : TY} {t : TypeId} (hk : y.okT P t = true) {v : Value} {d : DataW H} {ps : List MemPlace} (h : DataW.Trod enc P w 0 spare held t v d ps) (hw : ∀ n ∈ d.weights P t, n ≤ reachBytes)
    {r : Reach} {base : Nat} (hok : Value.okWide P w r base t v) : ∃ x : y.den, y.rep w yes x v ∧ y.lay.fits x := by
  obtain ⟨fuel, h⟩ := h
  match y, hk with
  | .sc c, hk =>
    obtain ⟨u, x, h1, h2, h3⟩ := CT.open_ c t hk fuel _ (d, ps) h hw
    have : v = u := by
      cases c with
      | int k =>
        have hk : CT.okT P (.int k) t = true := hk
        unfold CT.okT at hk
        split at hk
        · rename_i hu
          obtain ⟨n, rfl⟩ := okWide_int hu hok
          simpa [Value.cells] using h1
        · cases hk
      | bool =>
        have hk : CT.okT P .bool t = true := hk
        unfold CT.okT at hk
        split at hk
        · rename_i hu
          obtain ⟨n, rfl⟩ := okWide_bool hu hok
          simpa [Value.cells] using h1
        · cases hk
      | str =>
        have hk : CT.okT P .str t = true := hk
        unfold CT.okT at hk
        split at hk
        · rename_i hu
          obtain ⟨n, rfl⟩ := okWide_string hu hok
          simpa [Value.cells] using h1
        · cases hk
      | sl l =>
        have hk : CT.okT P (.sl l) t = true := hk
        unfold CT.okT at hk
        split at hk
        · rename_i hu
          obtain ⟨a, n, m, rfl⟩ := okWide_slice hu hok
          simpa [Value.cells] using h1
        · cases hk
    rw [this]
    exact ⟨x, h2, h3⟩
  | .st (.cons c l), hk =>
    have hk' : Lay.okT P (.cons c l) t = true := hk
    obtain ⟨x, h1, h2⟩ := Lay.open_ (.cons c l) t hk' fuel _ (d, ps) h hw
    unfold Lay.okT at hk'
    split at hk'
    · rename_i fs hu
      obtain ⟨cs, rfl, _⟩ := okWide_struct hu hok
      exact ⟨x, ⟨cs.toList, by simp, by simpa [Value.cells] using h1⟩, h2⟩
    · cases hk'

def okTs (P : Program) : List TY → List TypeId → Bool
  | [], [] => true
  | y :: ys, t :: ts => y.okT P t && okTs P ys ts
  | _, _ => false

theorem opens {r : Reach} {base : Nat} : ∀ (ys : List TY) (ts : List TypeId), okTs P ys ts = true → ∀ (vs : List Value) (ds : List (DataW H)) (ps : List MemPlace), DataW.TrodAll enc P w 0 spare held ts vs ds ps →
    (∀ n ∈ DataW.weightsEach P ts ds, n ≤ reachBytes) → (∀ (j : Nat) t v, ts[j]? = some t → vs[j]? = some v → Value.okWide P w r base t v) →
    ∃ x : Den ys, DenRep w yes ys x vs ∧ DenFits ys x
  | [], [], _, vs, ds, ps, h, hw, hok => by
    obtain ⟨h1, _, _⟩ := trodAll_nil h
    exact ⟨(), h1, trivial⟩
  | [], _ :: _, hk, vs, ds, ps, h, hw, hok => by simp [okTs] at hk
  | _ :: _, [], hk, vs, ds, ps, h, hw, hok => by simp [okTs] at hk
  | y :: ys, t :: ts, hk, vs, ds, ps, h, hw, hok => by
    simp only [okTs, Bool.and_eq_true] at hk
    obtain ⟨v, vs', d, ds', p, q, rfl, rfl, rfl, h1, h2⟩ := trodAll_cons h
    simp only [DataW.weightsEach, List.mem_append] at hw
    obtain ⟨x, hx, hf⟩ := TY.open_ hk.1 h1 (fun n hn => hw n (.inl hn)) (hok 0 t v rfl rfl)
    obtain ⟨xs, hxs, hfs⟩ := opens ys ts hk.2 vs' ds' q h2 (fun n hn => hw n (.inr hn)) (fun j t v ht hv => hok (j + 1) t v (by simpa using ht) (by simpa using hv))
    exact ⟨(x, xs), ⟨v, vs', rfl, hx, hxs⟩, hf, hfs⟩

theorem trodAll_below (hl : laidOutB P = true) {W W' : World} (hb : Below W.heap.size W W') : ∀ (ts : List TypeId), (ts.all fun t => P.readableRec t && Nat.blt t P.types.size) = true →
    ∀ (vs : List Value) (ds : List (DataW H)) (ps : List MemPlace), DataW.TrodAll enc P W 0 (fun _ => true) true ts vs ds ps →
    DataW.TrodAll enc P W' 0 (fun b => decide (b < W.heap.size)) true ts vs ds ps
  | [], _, vs, ds, ps, h => by
    obtain ⟨rfl, rfl, rfl⟩ := trodAll_nil h
    rfl
  | t :: ts, hr, vs, ds, ps, h => by
    simp only [List.all_cons, Bool.and_eq_true] at hr
    obtain ⟨v, vs', d, ds', p, q, rfl, rfl, rfl, h1, h2⟩ := trodAll_cons h
    refine ⟨p, q, Below.trod hl hr.1.1 (by simpa [Nat.blt_eq] using hr.1.2) h1 hb ?_, trodAll_below hl hb ts hr.2 vs' ds' q h2, rfl⟩
    obtain ⟨m, hm⟩ := h1
    exact DataW.trod_lt m _ _ _ hm
end
end Go.Proofs.Ythdjomfkechfoaa.Vx
