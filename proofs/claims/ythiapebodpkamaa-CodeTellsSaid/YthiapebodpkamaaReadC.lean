/- Reading of a program, in plain Lean: what is read is just what was written. -/
import Derived.Test.YthiapebodpkamaaReadP
import Derived.Shelf.Spec.RuneCount
namespace Go.Proofs.Ythiapebodpkamaa
theorem strB_bys (s : ByteArray) : Bys (strB s) := by
  intro x hx
  obtain ⟨b, _, rfl⟩ := List.mem_map.1 hx
  have := b.toNat_lt
  omega
theorem strOf_strB (s : ByteArray) : strOfNums (strB s) = s := strOfNums_bytes s
theorem strB_strOf {l : List Int} (h : Bys l) : strB (strOfNums l) = l := by
  unfold strB
  rw [strOfNums_data, List.map_map]
  conv => rhs; rw [← List.map_id l]
  refine List.map_congr_left fun x hx => ?_
  obtain ⟨h1, h2⟩ := h x hx
  show ((UInt8.ofNat x.toNat).toNat : Int) = x
  rw [UInt8.toNat_ofNat_of_lt' (by omega : x.toNat < 2 ^ 8)]
  omega
def textP (l : List Int) : Option (ByteArray × List Int) := (numP 40 l).bind fun p => if p.1 ≤ p.2.length then some (strOfNums (p.2.take p.1), p.2.drop p.1) else none
theorem textP_mk {s : ByteArray} (h : s.size ≤ 40) (r : List Int) : textP (uintB (strB s).length ++ (strB s ++ r)) = some (s, r) := by
  unfold textP
  rw [numP_mk (by decide) (by rw [strB_length]; exact h)]
  show (if (strB s).length ≤ (strB s ++ r).length then some (strOfNums ((strB s ++ r).take (strB s).length), (strB s ++ r).drop (strB s).length) else none) = _
  rw [if_pos (by rw [List.length_append]; omega), List.take_left' rfl, List.drop_left' rfl, strOf_strB]
theorem textP_of {l : List Int} (hb : Bys l) {s : ByteArray} {r : List Int} (h : textP l = some (s, r)) : s.size ≤ 40 ∧ l = uintB (strB s).length ++ (strB s ++ r) := by
  unfold textP at h
  obtain ⟨⟨n, r'⟩, h1, h2⟩ := Option.bind_eq_some_iff.1 h
  obtain ⟨hn, rfl⟩ := numP_of hb h1
  by_cases hl : n ≤ r'.length
  · rw [show (if (n, r').1 ≤ (n, r').2.length then some (strOfNums ((n, r').2.take (n, r').1), (n, r').2.drop (n, r').1) else none) = some (strOfNums (r'.take n), r'.drop n) from if_pos hl] at h2
    injection h2 with h2
    injection h2 with e1 e2
    subst e1 e2
    have hbt : Bys (r'.take n) := fun x hx => hb x (List.mem_append_right _ (List.mem_of_mem_take hx))
    rw [strB_strOf hbt, List.take_append_drop, List.length_take, Nat.min_eq_left hl, strOfNums_size, List.length_take, Nat.min_eq_left hl]
    exact ⟨hn, rfl⟩
  · rw [show (if (n, r').1 ≤ (n, r').2.length then some (strOfNums ((n, r').2.take (n, r').1), (n, r').2.drop (n, r').1) else none) = none from if_neg hl] at h2
    cases h2
theorem uB_nat (n : Nat) : uB (n : Int) = uintB n := by unfold uB; rw [Int.toNat_natCast]
theorem uB_of {x : Int} (h : 0 ≤ x) : ∃ n : Nat, x = n ∧ uB x = uintB n := ⟨x.toNat, by omega, rfl⟩
def loOf (t : Nat) : Int := (rangeOf (t : Int)).1
def wideOf (t : Nat) : Nat := ((rangeOf (t : Int)).2 - (rangeOf (t : Int)).1).toNat
theorem wide_le (t : Nat) : wideOf t < 18446744073709551616 := by
  have := range_bound (t : Int)
  unfold wideOf
  omega
def varP (l : List Int) : Option (GVar × List Int) :=
  (textP l).bind fun p => (numP 255 p.2).bind fun q => (numP 255 q.2).bind fun t => (numP (wideOf t.1) t.2).bind fun d => some (⟨p.1, (q.1 : Int), (t.1 : Int), loOf t.1 + (d.1 : Int)⟩, d.2)
structure OkVar (v : GVar) : Prop where
  name : v.name.size ≤ 40
  cls : 0 ≤ v.cls ∧ v.cls ≤ 255
  ty : 0 ≤ v.ty ∧ v.ty ≤ 255
  first : (rangeOf v.ty).1 ≤ v.first ∧ v.first ≤ (rangeOf v.ty).2
theorem varP_mk {v : GVar} (h : OkVar v) (r : List Int) : varP (varB v ++ r) = some (v, r) := by
  obtain ⟨nm, cls, ty, fst⟩ := v
  obtain ⟨h1, ⟨h2, h2'⟩, ⟨h3, h3'⟩, ⟨h4, h4'⟩⟩ := h
  simp only at h1 h2 h2' h3 h3' h4 h4'
  obtain ⟨c, rfl⟩ : ∃ n : Nat, cls = n := ⟨cls.toNat, by omega⟩
  obtain ⟨t, rfl⟩ : ∃ n : Nat, ty = n := ⟨ty.toNat, by omega⟩
  obtain ⟨d, hd⟩ : ∃ n : Nat, fst - (rangeOf (t : Int)).1 = n := ⟨(fst - (rangeOf (t : Int)).1).toNat, by omega⟩
  have e : varB ⟨nm, c, t, fst⟩ ++ r = uintB (strB nm).length ++ (strB nm ++ (uintB c ++ (uintB t ++ (uintB d ++ r)))) := by
    unfold varB
    simp only [uB_nat, hd, List.append_assoc]
  unfold varP
  rw [e, textP_mk h1]
  show (numP 255 (uintB c ++ _)).bind _ = _
  rw [numP_mk (by decide) (by omega)]
  show (numP 255 (uintB t ++ _)).bind _ = _
  rw [numP_mk (by decide) (by omega)]
  show (numP (wideOf t) (uintB d ++ _)).bind _ = _
  rw [numP_mk (wide_le t) (by unfold wideOf; omega)]
  show some ((⟨nm, (c : Int), (t : Int), loOf t + (d : Int)⟩ : GVar), r) = _
  rw [show loOf t + (d : Int) = fst by unfold loOf; omega]
theorem varP_of {l : List Int} (hb : Bys l) {v : GVar} {r : List Int} (h : varP l = some (v, r)) : OkVar v ∧ l = varB v ++ r := by
  unfold varP at h
  obtain ⟨⟨nm, l1⟩, h1, h⟩ := Option.bind_eq_some_iff.1 h
  obtain ⟨⟨c, l2⟩, h2, h⟩ := Option.bind_eq_some_iff.1 h
  obtain ⟨⟨t, l3⟩, h3, h⟩ := Option.bind_eq_some_iff.1 h
  obtain ⟨⟨d, l4⟩, h4, h⟩ := Option.bind_eq_some_iff.1 h
  injection h with h
  injection h with e1 e2
  subst e1 e2
  obtain ⟨b1, rfl⟩ := textP_of hb h1
  obtain ⟨b2, rfl⟩ := numP_of hb.right.right h2
  obtain ⟨b3, rfl⟩ := numP_of hb.right.right.right h3
  obtain ⟨b4, rfl⟩ := numP_of hb.right.right.right.right h4
  have b4 : d ≤ wideOf t := b4
  have hr := range_bound (t : Int)
  have hw : wideOf t = ((rangeOf (t : Int)).2 - (rangeOf (t : Int)).1).toNat := rfl
  have hlo : loOf t = (rangeOf (t : Int)).1 := rfl
  refine ⟨⟨b1, ⟨by show (0 : Int) ≤ (c : Int); omega, by show (c : Int) ≤ 255; omega⟩, ⟨by show (0 : Int) ≤ (t : Int); omega, by show (t : Int) ≤ 255; omega⟩, ⟨by show (rangeOf (t : Int)).1 ≤ loOf t + (d : Int); omega, by show loOf t + (d : Int) ≤ (rangeOf (t : Int)).2; omega⟩⟩, ?_⟩
  unfold varB
  simp only [uB_nat, List.append_assoc]
  rw [show loOf t + (d : Int) - (rangeOf (t : Int)).1 = (d : Int) by omega, uB_nat]
def unzig (m : Nat) : Int := if m % 2 = 1 then -((m / 2 : Nat) : Int) - 1 else ((m / 2 : Nat) : Int)
theorem zig_unzig (m : Nat) : zig (unzig m) = m := by
  unfold unzig zig
  split <;> split <;> omega
theorem unzig_zig {n : Int} {m : Nat} (h : zig n = m) : unzig m = n := by
  unfold zig at h
  unfold unzig
  split at h <;> split <;> omega
def insP (l : List Int) : Option (GIns × List Int) :=
  (numP 255 l).bind fun o => (numP 255 o.2).bind fun t => (numP 2000 t.2).bind fun a => (numP 17179869184 a.2).bind fun n => some (⟨(o.1 : Int), (t.1 : Int), (a.1 : Int), unzig n.1⟩, n.2)
structure OkIns (i : GIns) : Prop where
  op : 0 ≤ i.op ∧ i.op ≤ 255
  t : 0 ≤ i.t ∧ i.t ≤ 255
  a : 0 ≤ i.a ∧ i.a ≤ 2000
  n : zig i.n ≤ 17179869184
theorem zig_nonneg (n : Int) : 0 ≤ zig n := by unfold zig; split <;> omega
theorem insP_mk {i : GIns} (h : OkIns i) (r : List Int) : insP (insB i ++ r) = some (i, r) := by
  obtain ⟨o, t, a, n⟩ := i
  obtain ⟨⟨h1, h1'⟩, ⟨h2, h2'⟩, ⟨h3, h3'⟩, h4⟩ := h
  simp only at h1 h1' h2 h2' h3 h3' h4
  obtain ⟨o, rfl⟩ : ∃ n : Nat, o = n := ⟨o.toNat, by omega⟩
  obtain ⟨t, rfl⟩ : ∃ n : Nat, t = n := ⟨t.toNat, by omega⟩
  obtain ⟨a, rfl⟩ : ∃ n : Nat, a = n := ⟨a.toNat, by omega⟩
  have hz := zig_nonneg n
  obtain ⟨z, hzn⟩ : ∃ m : Nat, zig n = m := ⟨(zig n).toNat, by omega⟩
  have e : insB ⟨o, t, a, n⟩ ++ r = uintB o ++ (uintB t ++ (uintB a ++ (uintB z ++ r))) := by
    unfold insB
    simp only [uB_nat, hzn, List.append_assoc]
  unfold insP
  rw [e, numP_mk (by decide) (by omega)]
  show (numP 255 (uintB t ++ _)).bind _ = _
  rw [numP_mk (by decide) (by omega)]
  show (numP 2000 (uintB a ++ _)).bind _ = _
  rw [numP_mk (by decide) (by omega)]
  show (numP 17179869184 (uintB z ++ _)).bind _ = _
  rw [numP_mk (by decide) (by omega)]
  show some ((⟨(o : Int), (t : Int), (a : Int), unzig z⟩ : GIns), r) = _
  rw [unzig_zig hzn]
theorem insP_of {l : List Int} (hb : Bys l) {i : GIns} {r : List Int} (h : insP l = some (i, r)) : OkIns i ∧ l = insB i ++ r := by
  unfold insP at h
  obtain ⟨⟨o, l1⟩, h1, h⟩ := Option.bind_eq_some_iff.1 h
  obtain ⟨⟨t, l2⟩, h2, h⟩ := Option.bind_eq_some_iff.1 h
  obtain ⟨⟨a, l3⟩, h3, h⟩ := Option.bind_eq_some_iff.1 h
  obtain ⟨⟨n, l4⟩, h4, h⟩ := Option.bind_eq_some_iff.1 h
  injection h with h
  injection h with e1 e2
  subst e1 e2
  obtain ⟨b1, rfl⟩ := numP_of hb h1
  obtain ⟨b2, rfl⟩ := numP_of hb.right h2
  obtain ⟨b3, rfl⟩ := numP_of hb.right.right h3
  obtain ⟨b4, rfl⟩ := numP_of hb.right.right.right h4
  refine ⟨⟨⟨by show (0 : Int) ≤ (o : Int); omega, by show (o : Int) ≤ 255; omega⟩, ⟨by show (0 : Int) ≤ (t : Int); omega, by show (t : Int) ≤ 255; omega⟩, ⟨by show (0 : Int) ≤ (a : Int); omega, by show (a : Int) ≤ 2000; omega⟩, by show zig (unzig n) ≤ _; rw [zig_unzig]; omega⟩, ?_⟩
  unfold insB
  simp only [uB_nat, zig_unzig, List.append_assoc]
def blkP (l : List Int) : Option (Int × List Int) := (numP 255 l).bind fun q => some ((q.1 : Int), q.2)
theorem blkP_mk {k : Int} (h : 0 ≤ k ∧ k ≤ 255) (r : List Int) : blkP (uB k ++ r) = some (k, r) := by
  obtain ⟨k, rfl⟩ : ∃ n : Nat, k = n := ⟨k.toNat, by omega⟩
  unfold blkP
  rw [uB_nat, numP_mk (by decide) (by omega)]
  rfl
theorem blkP_of {l : List Int} (hb : Bys l) {k : Int} {r : List Int} (h : blkP l = some (k, r)) : (0 ≤ k ∧ k ≤ 255) ∧ l = uB k ++ r := by
  unfold blkP at h
  obtain ⟨⟨q, l1⟩, h1, h⟩ := Option.bind_eq_some_iff.1 h
  injection h with h
  injection h with e1 e2
  subst e1 e2
  obtain ⟨b1, rfl⟩ := numP_of hb h1
  exact ⟨⟨by show (0 : Int) ≤ (q : Int); omega, by show (q : Int) ≤ 255; omega⟩, by rw [uB_nat]⟩
/-- So many, one behind the other. -/
def manyP {α : Type} (p : List Int → Option (α × List Int)) : Nat → List Int → Option (List α × List Int)
  | 0, l => some ([], l)
  | n + 1, l => (p l).bind fun q => (manyP p n q.2).bind fun t => some (q.1 :: t.1, t.2)
theorem manyP_of {α : Type} {p : List Int → Option (α × List Int)} {enc : α → List Int} {ok : α → Prop} (hp : ∀ l x r, Bys l → p l = some (x, r) → ok x ∧ l = enc x ++ r) :
    ∀ (n : Nat) (l : List Int) (xs : List α) (r : List Int), Bys l → manyP p n l = some (xs, r) → xs.length = n ∧ (∀ x ∈ xs, ok x) ∧ l = xs.flatMap enc ++ r := by
  intro n
  induction n with
  | zero =>
    intro l xs r _ h
    injection h with h
    injection h with e1 e2
    subst e1 e2
    exact ⟨rfl, fun _ h => absurd h (by simp), rfl⟩
  | succ n ih =>
    intro l xs r hb h
    unfold manyP at h
    obtain ⟨⟨x, l1⟩, h1, h⟩ := Option.bind_eq_some_iff.1 h
    obtain ⟨⟨ys, l2⟩, h2, h⟩ := Option.bind_eq_some_iff.1 h
    injection h with h
    injection h with e1 e2
    subst e1 e2
    obtain ⟨b1, rfl⟩ := hp l x l1 hb h1
    obtain ⟨b2, b3, rfl⟩ := ih _ _ _ hb.right h2
    refine ⟨by simp [b2], fun y hy => ?_, by simp⟩
    rcases List.mem_cons.1 hy with rfl | hy
    · exact b1
    · exact b3 y hy
theorem manyP_mk {α : Type} {p : List Int → Option (α × List Int)} {enc : α → List Int} {ok : α → Prop} (hp : ∀ x r, ok x → p (enc x ++ r) = some (x, r)) :
    ∀ (xs : List α) (r : List Int), (∀ x ∈ xs, ok x) → manyP p xs.length (xs.flatMap enc ++ r) = some (xs, r) := by
  intro xs
  induction xs with
  | nil => intro r _; rfl
  | cons x l ih =>
    intro r h
    show (p ((x :: l).flatMap enc ++ r)).bind _ = _
    rw [List.flatMap_cons, List.append_assoc, hp x _ (h x (by simp))]
    show (manyP p l.length (l.flatMap enc ++ r)).bind _ = _
    rw [ih r fun y hy => h y (by simp [hy])]
    rfl
def codeP (l : List Int) : Option (GCode × List Int) :=
  (textP l).bind fun nm => (numP 200 nm.2).bind fun a => (manyP varP a.1 a.2).bind fun vs => (numP 100 vs.2).bind fun b => (manyP blkP b.1 b.2).bind fun bs => (numP 2000 bs.2).bind fun i => (manyP insP i.1 i.2).bind fun is => some (⟨nm.1, vs.1, bs.1, is.1⟩, is.2)
structure OkCode (c : GCode) : Prop where
  name : c.name.size ≤ 40
  nv : c.vars.length ≤ 200
  vars : ∀ v ∈ c.vars, OkVar v
  nb : c.blocks.length ≤ 100
  blocks : ∀ k ∈ c.blocks, 0 ≤ k ∧ k ≤ 255
  ni : c.ins.length ≤ 2000
  ins : ∀ i ∈ c.ins, OkIns i
theorem codeP_mk {c : GCode} (h : OkCode c) (r : List Int) : codeP (codeB c ++ r) = some (c, r) := by
  obtain ⟨nm, vs, bs, is⟩ := c
  obtain ⟨h1, h2, h3, h4, h5, h6, h7⟩ := h
  simp only at h1 h2 h3 h4 h5 h6 h7
  have e : codeB ⟨nm, vs, bs, is⟩ ++ r = uintB (strB nm).length ++ (strB nm ++ (uintB vs.length ++ (vs.flatMap varB ++ (uintB bs.length ++ (bs.flatMap uB ++ (uintB is.length ++ (is.flatMap insB ++ r))))))) := by
    unfold codeB headB
    simp only [uB_nat, List.append_assoc]
  unfold codeP
  rw [e, textP_mk h1]
  show (numP 200 (uintB vs.length ++ _)).bind _ = _
  rw [numP_mk (by decide) h2]
  show (manyP varP vs.length (vs.flatMap varB ++ _)).bind _ = _
  rw [manyP_mk (ok := OkVar) (fun x r hx => varP_mk hx r) vs _ h3]
  show (numP 100 (uintB bs.length ++ _)).bind _ = _
  rw [numP_mk (by decide) h4]
  show (manyP blkP bs.length (bs.flatMap uB ++ _)).bind _ = _
  rw [manyP_mk (ok := fun k => 0 ≤ k ∧ k ≤ 255) (fun x r hx => blkP_mk hx r) bs _ h5]
  show (numP 2000 (uintB is.length ++ _)).bind _ = _
  rw [numP_mk (by decide) h6]
  show (manyP insP is.length (is.flatMap insB ++ _)).bind _ = _
  rw [manyP_mk (ok := OkIns) (fun x r hx => insP_mk hx r) is _ h7]
  rfl
theorem codeP_of {l : List Int} (hb : Bys l) {c : GCode} {r : List Int} (h : codeP l = some (c, r)) : OkCode c ∧ l = codeB c ++ r := by
  unfold codeP at h
  obtain ⟨⟨nm, l1⟩, h1, h⟩ := Option.bind_eq_some_iff.1 h
  obtain ⟨⟨nv, l2⟩, h2, h⟩ := Option.bind_eq_some_iff.1 h
  obtain ⟨⟨vs, l3⟩, h3, h⟩ := Option.bind_eq_some_iff.1 h
  obtain ⟨⟨nb, l4⟩, h4, h⟩ := Option.bind_eq_some_iff.1 h
  obtain ⟨⟨bs, l5⟩, h5, h⟩ := Option.bind_eq_some_iff.1 h
  obtain ⟨⟨ni, l6⟩, h6, h⟩ := Option.bind_eq_some_iff.1 h
  obtain ⟨⟨is, l7⟩, h7, h⟩ := Option.bind_eq_some_iff.1 h
  injection h with h
  injection h with e1 e2
  subst e1 e2
  obtain ⟨b1, rfl⟩ := textP_of hb h1
  have y1 := hb.right.right
  obtain ⟨b2, rfl⟩ := numP_of y1 h2
  obtain ⟨b3, b3', rfl⟩ := manyP_of (enc := varB) (ok := OkVar) (fun l x r hl hx => varP_of hl hx) _ _ _ _ y1.right h3
  have y3 := y1.right.right
  obtain ⟨b4, rfl⟩ := numP_of y3 h4
  obtain ⟨b5, b5', rfl⟩ := manyP_of (enc := uB) (ok := fun k => 0 ≤ k ∧ k ≤ 255) (fun l x r hl hx => blkP_of hl hx) _ _ _ _ y3.right h5
  have y5 := y3.right.right
  obtain ⟨b6, rfl⟩ := numP_of y5 h6
  obtain ⟨b7, b7', rfl⟩ := manyP_of (enc := insB) (ok := OkIns) (fun l x r hl hx => insP_of hl hx) _ _ _ _ y5.right h7
  subst b3 b5 b7
  refine ⟨⟨b1, b2, b3', b4, b5', b6, b7'⟩, ?_⟩
  unfold codeB headB
  simp only [uB_nat, List.append_assoc]
def readB (l : List Int) : Option GCode := (codeP l).bind fun q => if q.2 = [] ∧ rightB q.1 = true then some q.1 else none
theorem ok_wf {c : GCode} (h : OkCode c) : c.Wf := by
  refine ⟨fun v hv => ?_, h.blocks, fun i hi => ?_⟩
  · have := h.vars v hv
    have hr := range_bound v.ty
    exact ⟨this.cls, this.ty, by have := this.first; omega⟩
  · have := h.ins i hi
    refine ⟨this.op, this.t, by have := this.a; omega, ?_⟩
    have hz := this.n
    unfold zig at hz
    split at hz <;> omega
theorem ok_right {c : GCode} (h : rightB c = true) (hw : c.Wf) : OkCode c := by
  obtain ⟨h1, h2, h3, h4, h5, h6, h7, h8⟩ := right_parts h
  refine ⟨h1.2, h2, fun v hv => ?_, h3, hw.blocks, h5, fun i hi => ?_⟩
  · obtain ⟨k, hk, rfl⟩ := List.mem_iff_getElem.1 hv
    have := (h6 k hk).1
    exact ⟨this.name.2, by have := this.cls; omega, by have := this.ty; omega, this.first⟩
  · obtain ⟨k, hk, rfl⟩ := List.mem_iff_getElem.1 hi
    have g := good_ins (h8 k hk) h2 h3 h5
    refine ⟨(hw.ins _ hi).op, (hw.ins _ hi).t, g.a, ?_⟩
    have := g.n
    unfold zig
    split <;> omega
theorem read_mk {c : GCode} (h : rightB c = true) (hw : c.Wf) : readB (codeB c) = some c := by
  unfold readB
  have := codeP_mk (ok_right h hw) []
  rw [List.append_nil] at this
  rw [this]
  exact if_pos ⟨rfl, h⟩
theorem read_of {l : List Int} (hb : Bys l) {c : GCode} (h : readB l = some c) : rightB c = true ∧ OkCode c ∧ l = codeB c := by
  unfold readB at h
  obtain ⟨⟨d, r⟩, h1, h⟩ := Option.bind_eq_some_iff.1 h
  by_cases hc : r = [] ∧ rightB d = true
  · rw [show (if (d, r).2 = [] ∧ rightB (d, r).1 = true then some (d, r).1 else none) = some d from if_pos hc] at h
    injection h with h
    subst h
    obtain ⟨b1, b2⟩ := codeP_of hb h1
    exact ⟨hc.2, b1, by rw [b2, hc.1, List.append_nil]⟩
  · rw [show (if (d, r).2 = [] ∧ rightB (d, r).1 = true then some (d, r).1 else none) = none from if_neg hc] at h
    cases h
/-- Nothing that is cut, and nothing with more behind it, is read. -/
theorem read_tail {c : GCode} (h : rightB c = true) (hw : c.Wf) {a r : List Int} (ha : Bys a) (e : codeB c = a ++ r ∨ a = codeB c ++ r) (hr : r ≠ []) : readB a = none := by
  cases hd : readB a with
  | none => rfl
  | some d =>
    exfalso
    obtain ⟨b1, b2, b3⟩ := read_of ha hd
    rcases e with e | e
    · have h1 := codeP_mk b2 r
      rw [← b3, ← e] at h1
      have h2 := codeP_mk (ok_right h hw) []
      rw [List.append_nil, h1] at h2
      injection h2 with h2
      injection h2 with _ h2
      exact hr h2
    · have h1 := codeP_mk (ok_right h hw) r
      rw [← e, b3] at h1
      have h2 := codeP_mk b2 []
      rw [List.append_nil, h1] at h2
      injection h2 with h2
      injection h2 with _ h2
      exact hr h2
theorem code_bys {c : GCode} : Bys (codeB c) := by
  have u : ∀ n : Int, Bys (uB n) := fun n => uint_bys _
  have fm : ∀ {α : Type} (f : α → List Int) (l : List α), (∀ x, Bys (f x)) → Bys (l.flatMap f) := fun f l h x hx => by
    obtain ⟨y, _, hy⟩ := List.mem_flatMap.1 hx
    exact h y x hy
  unfold codeB headB
  exact ((((((uint_bys _).append (strB_bys _)).append (u _)).append (fm _ _ fun v => ((uint_bys _).append (strB_bys _)).append (((u _).append (u _)).append (u _)))).append (u _)).append (fm _ _ u)).append (u _) |>.append (fm _ _ fun i => (((u _).append (u _)).append (u _)).append (u _))
theorem code_inj {c d : GCode} (hc : rightB c = true) (hcw : c.Wf) (hd : rightB d = true) (hdw : d.Wf) (h : codeB c = codeB d) : c = d := by
  have h1 := read_mk hc hcw
  rw [h, read_mk hd hdw] at h1
  injection h1 with h1
  exact h1.symm
end Go.Proofs.Ythiapebodpkamaa

