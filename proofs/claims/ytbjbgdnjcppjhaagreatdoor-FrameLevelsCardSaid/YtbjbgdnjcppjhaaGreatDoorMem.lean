/-
  WORDS FOR MEMORY, for the walks of this seat: map literals whose keys are integers (made in one region, looked up), what lies below a block, the cells of a box behind a call. No condition. By an AI agent.
-/
import Derived.Test.YtbjbgdnjcppjhaaGreatDoorRows
import Derived.WalkKit
import Derived.WalkSpells
import Derived.WalkLawsBesides
import Derived.MapKept
import Derived.Lib.Hide
import Derived.Lib.LaidTab
import Derived.Lib.ConvBytes
namespace Go.Proofs.YtbjbgdnjcppjhaaGreatDoor
open Go.RowKit

/-- the entries of a map literal whose keys are integers -/
def ents (kd : IntKind) : Nat → List (Int × Value) → List MapEntry
  | _, [] => []
  | i, (k, v) :: r => { key := .int kd k, val := v, born := i } :: ents kd (i + 1) r
/-- a map literal whose keys are integers, as a block -/
def imap (kd : IntKind) (l : List (Int × Value)) : Obj := .map (ents kd 0 l).toArray l.length

theorem ents_append (kd : IntKind) (a : List (Int × Value)) (x : Int × Value) : ∀ i, ents kd i (a ++ [x]) = ents kd i a ++ [{ key := .int kd x.1, val := x.2, born := i + a.length }] := by
  induction a with
  | nil => intro i; simp [ents]
  | cons y r ih => intro i; obtain ⟨k, v⟩ := y; simp [ents, ih]; omega

theorem imap_push (kd : IntKind) (a : List (Int × Value)) (k : Int) (v : Value) :
    Obj.map ((ents kd 0 a).toArray.push { key := .int kd k, val := v, born := a.length }) (a.length + 1) = imap kd (a ++ [(k, v)]) := by
  simp [imap, ents_append]

theorem findNow_none (kd : IntKind) (k : Int) : ∀ (l : List (Int × Value)) (i j : Nat), (l.all fun p => p.1 != k) = true → Instr.findNow (.int kd) (.int kd k) (ents kd i l) j = some none
  | [], _, _, _ => rfl
  | (q, v) :: r, i, j, h => by
    simp only [List.all_cons, Bool.and_eq_true, bne_iff_ne, ne_eq] at h
    have hne : (k == q) = false := by simp; exact fun e => h.1 e.symm
    simp only [ents, Instr.findNow, Instr.sameNow, if_true, hne]
    exact findNow_none kd k r (i + 1) (j + 1) (by simpa using h.2)

theorem findNow_some (kd : IntKind) (k : Int) : ∀ (l : List (Int × Value)) (i j : Nat) (v : Value), l.lookup k = some v → ∃ n, Instr.findNow (.int kd) (.int kd k) (ents kd i l) j = some (some (n, v))
  | [], _, _, _, h => by simp at h
  | (q, u) :: r, i, j, v, h => by
    by_cases e : k = q
    · subst e
      simp [List.lookup] at h
      subst h
      exact ⟨j, by simp [ents, Instr.findNow, Instr.sameNow]⟩
    · have hne : (k == q) = false := by simp [e]
      simp only [List.lookup, hne] at h
      obtain ⟨n, hn⟩ := findNow_some kd k r (i + 1) (j + 1) v h
      exact ⟨n, by simp only [ents, Instr.findNow, Instr.sameNow, if_true, hne]; exact hn⟩

theorem lookup_none (k : Int) : ∀ (l : List (Int × Value)), l.lookup k = none → (l.all fun p => p.1 != k) = true
  | [], _ => rfl
  | (q, u) :: r, h => by
    by_cases e : k = q
    · subst e; simp [List.lookup] at h
    · have hne : (k == q) = false := by simp [e]
      simp only [List.lookup, hne] at h
      simp only [List.all_cons, Bool.and_eq_true, bne_iff_ne, ne_eq]
      exact ⟨fun x => e x.symm, lookup_none k r h⟩

section
variable {P : Program}

theorem setBlock_alloc (w : World) (o o' : Obj) : ({ (w.alloc o) with heap := (w.alloc o).heap.setIfInBounds w.heap.size o' } : World) = w.alloc o' := by
  have h : (w.heap.push o).setIfInBounds w.heap.size o' = w.heap.push o' := by
    apply Array.ext'
    simp
  show ({ w with heap := (w.heap.push o).setIfInBounds w.heap.size o' } : World) = { w with heap := w.heap.push o' }
  rw [h]

theorem run_check_int (w : World) {kt : TypeId} {kd : IntKind} (hk : P.underlying kt = some (.int kd)) (k : Int) (b : Bool) : (Instr.checkKey b 10000 kt (.int kd k)).run P w = .ok () w :=
  MapKept.run_checkKey hk (show MapKept.IsKey (.int kd) (.int kd k) from rfl) b 9999

theorem run_insert_new (w : World) {mt kt et : TypeId} {kd : IntKind} (hm : P.underlying mt = some (.map kt et)) (hk : P.underlying kt = some (.int kd)) (l : List (Int × Value)) (k : Int) (v : Value)
    (h : (l.all fun p => p.1 != k) = true) :
    (Instr.mapUpdate mt (.map (some w.heap.size)) (.int kd k) v).run P (w.alloc (imap kd l)) = .ok () (w.alloc (imap kd (l ++ [(k, v)]))) := by
  have hb : (w.alloc (imap kd l)).heap[w.heap.size]? = some (.map (ents kd 0 l).toArray l.length) := heap_alloc_new w _
  have hf : (Instr.findKey kt (.int kd k) (ents kd 0 l).toArray.toList).run P (w.alloc (imap kd l)) = .ok none (w.alloc (imap kd l)) := by
    simp [Instr.findKey, run_underlying hk, findNow_none kd k l 0 0 h]
  have hset := fun o : Obj => MapKept.run_setObj_map (P := P) o hb
  rw [← imap_push]
  simp only [Instr.mapUpdate, Sem.run_bind, run_underlying hm, Result.andThen_ok, MapKept.run_getObj_map hb, run_check_int _ hk, hf, hset]
  exact congrArg (Result.ok ()) (setBlock_alloc w _ _)

theorem run_look (w : World) {mt kt et : TypeId} {kd : IntKind} (hm : P.underlying mt = some (.map kt et)) (hk : P.underlying kt = some (.int kd)) (l : List (Int × Value)) (b : Nat) (hb : w.heap[b]? = some (imap kd l)) (k : Int) (z : Value)
    (hz : (zeroValue et).run P w = .ok z w) (ok : Bool) :
    (Instr.lookup mt (.map (some b)) (.int kd k) ok).run P w = .ok (if ok then .tuple #[(l.lookup k).getD z, .bool (l.lookup k).isSome] else (l.lookup k).getD z) w := by
  cases h : l.lookup k with
  | none =>
    have hf : (Instr.findKey kt (.int kd k) (ents kd 0 l)).run P w = .ok none w := by
      simp [Instr.findKey, run_underlying hk, findNow_none kd k l 0 0 (lookup_none k l h)]
    simp [Instr.lookup, run_underlying hm, MapKept.run_getObj_map hb, run_check_int _ hk, hf, hz, Result.andThen]
  | some v =>
    obtain ⟨n, hn⟩ := findNow_some kd k l 0 0 v h
    have hf : (Instr.findKey kt (.int kd k) (ents kd 0 l)).run P w = .ok (some (n, v)) w := by
      simp [Instr.findKey, run_underlying hk, hn]
    simp [Instr.lookup, run_underlying hm, MapKept.run_getObj_map hb, run_check_int _ hk, hf, Result.andThen]
end

theorem mk_imap {P : Program} (t : TypeId) (kd : IntKind) (w : World) : (Instr.makeMap t none).run P w = .ok (.map (some w.heap.size)) (w.alloc (imap kd [])) := by
  simp [Instr.makeMap]; rfl

/-- what an operation of a map literal inserts -/
def insOf (T d : Nat) (kd : IntKind) (o : Oper) : Option (Int × Value) :=
  match o.dst, o.guard, o.op with
  | none, none, .insert t (.tmp m) (.const (.int q k)) x =>
    if (t == T && m == d && decide (q = kd)) = true then
      match x with
      | .const v => some (k, v)
      | .func f => some (k, .func (.func f) #[] #[])
      | _ => none
    else none
  | _, _, _ => none
def insAll (T d : Nat) (kd : IntKind) : List Oper → Option (List (Int × Value))
  | [] => some []
  | o :: r =>
    match insOf T d kd o, insAll T d kd r with
    | some x, some l => some (x :: l)
    | _, _ => none

theorem insOf_spec {T d : Nat} {kd : IntKind} {o : Oper} {x : Int × Value} (h : insOf T d kd o = some x) :
    o.dst = none ∧ o.guard = none ∧ ∃ y : Operand, o.op = .insert T (.tmp d) (.const (.int kd x.1)) y ∧ ∀ a : Act, a.eval y = x.2 := by
  obtain ⟨dst, op, ty, pos, after, guard⟩ := o
  unfold insOf at h
  split at h
  · rename_i t m q k y h1 h2 h3
    simp only at h1 h2 h3
    split at h
    · rename_i hc
      simp only [Bool.and_eq_true, beq_iff_eq, decide_eq_true_eq] at hc
      obtain ⟨⟨rfl, rfl⟩, rfl⟩ := hc
      split at h
      · cases h; exact ⟨h1, h2, _, h3, fun _ => rfl⟩
      · cases h; exact ⟨h1, h2, _, h3, fun _ => rfl⟩
      · cases h
    · cases h
  · cases h

theorem wpList_ins {P : Program} {ops : Array Oper} {Q : Exit → Act → World → Prop} {T kt et : TypeId} {kd : IntKind} (hm : P.underlying T = some (.map kt et)) (hk : P.underlying kt = some (.int kd)) (d : Nat) (w : World) {rest : List Oper} {a : Act}
    (ha : a.eval (.tmp d) = .map (some w.heap.size)) : ∀ (xs : List Oper) (es l : List (Int × Value)), insAll T d kd xs = some es → ((l ++ es).map (·.1)).Nodup →
    wpList P ops Q rest a (w.alloc (imap kd (l ++ es))) → wpList P ops Q (xs ++ rest) a (w.alloc (imap kd l))
  | [], es, l, h, _, hr => by
    simp only [insAll, Option.some.injEq] at h
    subst h
    simpa using hr
  | o :: xs, es, l, h, hn, hr => by
    unfold insAll at h
    split at h
    · rename_i x es' hx hxs
      cases h
      obtain ⟨h1, h2, y, h3, h4⟩ := insOf_spec hx
      have hnew : (l.all fun p => p.1 != x.1) = true := by
        simp only [List.map_append, List.map_cons] at hn
        have hd := (List.nodup_append.1 hn).2.2
        simp only [List.all_eq_true, bne_iff_ne, ne_eq]
        exact fun p hp => hd p.1 (List.mem_map_of_mem hp) x.1 (by simp)
      have hrun : (execOp a.eval o).run P (w.alloc (imap kd l)) = .ok .skip (w.alloc (imap kd (l ++ [x]))) := by
        have hi := run_insert_new (P := P) w hm hk l x.1 x.2 hnew
        unfold execOp
        rw [h3]
        simp only [Sem.run_bind, Sem.run_pure, ha, h4 a, show a.eval (.const (.int kd x.1)) = .int kd x.1 from rfl, hi, Result.andThen_ok]
      refine wpList_plain h2 fun K hK => ?_
      unfold Oper.wp
      rw [hrun, Oper.upon_skip]
      have hput : a.put o.dst undef = a := by rw [h1]; rfl
      rw [hput]
      refine hK _ _ (wpList_ins hm hk d w ha xs es' (l ++ [x]) hxs (by simpa using hn) (by simpa using hr))
    · cases h

theorem wpList_maplit {P : Program} {ops : Array Oper} {Q : Exit → Act → World → Prop} {T kt et : TypeId} {kd : IntKind} (hm : P.underlying T = some (.map kt et)) (hk : P.underlying kt = some (.int kd)) (n : Nat) {d : Nat} {ty : TypeId} {pos : String} {af : Array Edge} {l : List Oper} {a : Act} {w : World} (es : List (Int × Value))
    (hd : d < a.tmps.size) (hx : insAll T d kd (l.take n) = some es) (hn : (es.map (·.1)).Nodup)
    (h : wpList P ops Q (l.drop n) (a.put (some d) (.map (some w.heap.size))) (w.alloc (imap kd es))) :
    wpList P ops Q ({ dst := some d, op := .makeMap T none, type := ty, pos := pos, after := af, guard := none } :: l) a w := by
  refine wpList_plain rfl fun K hK => ?_
  unfold Oper.wp
  have hrun : (execOp a.eval { dst := some d, op := .makeMap T none, type := ty, pos := pos, after := af, guard := none }).run P w = .ok (.value (.map (some w.heap.size))) (w.alloc (imap kd [])) := by
    unfold execOp
    simp only [Option.map_none, Sem.run_bind, mk_imap T kd w, Result.andThen_ok, Sem.run_pure]
  rw [hrun, Oper.upon_value]
  refine hK _ _ ?_
  have := wpList_ins (P := P) (ops := ops) (Q := Q) hm hk d w (rest := l.drop n) (a := a.put (some d) (.map (some w.heap.size))) (by simp [Act.eval, Act.put, hd]) (l.take n) es [] hx (by simpa using hn) (by simpa using h)
  rwa [List.take_append_drop] at this


/-- what lies below a call's blocks reads behind the call as it did -/
theorem bcell {W w1 : World} (hb : Below W.heap.size W w1) : (∀ b o, b < W.heap.size → w1.cell? ⟨b, o, none⟩ = W.cell? ⟨b, o, none⟩) ∧ (∀ b o, b < W.heap.size → w1.frozen? ⟨b, o, none⟩ = W.frozen? ⟨b, o, none⟩) :=
  ⟨fun b o h => hb.cell (p := ⟨b, o, none⟩) h, fun b o h => hb.frozen (p := ⟨b, o, none⟩) h⟩

/-- a cell is there behind a new block, and behind a call -/
theorem cell_al {w : World} {a : Addr} {v : Value} (h : w.cell? a = some v) (o : Obj) : (w.alloc o).cell? a = some v := cell_later ((Below.refl w.heap.size w).alloc (Nat.le_refl _) o) h
theorem cell_lt {w : World} {a : Addr} {v : Value} (h : w.cell? a = some v) : a.block < w.heap.size := by
  rcases Nat.lt_or_ge a.block w.heap.size with h' | h'
  · exact h'
  · unfold World.cell? at h
    rw [Array.getElem?_eq_none h'] at h
    cases h

/-- a conversion of a text to bytes: a new row -/
theorem conv_bytes (s : ByteArray) (w : World) : ∃ (c : Nat) (W : World), (convert 9 88 (.string s)).run Tryz.prog w = .ok (.slice (some ⟨w.heap.size, 0, none⟩) s.size c) W ∧ Below w.heap.size w W ∧ w.heap.size + 1 ≤ W.heap.size ∧
    ∀ i, i < s.size → W.cell? ⟨w.heap.size, i, none⟩ = some (.int .u8 (s.data.toList.getD i 0).toNat) :=
  ⟨_, _, Lib.run_convert_string_bytes w 9 88 5 s Tryz.underlying9 Tryz.underlying88 Tryz.underlying5,
    ⟨rfl, rfl, rfl, by rw [Lib.bytesWorld_size]; omega, fun k hk => Lib.bytesWorld_at_old w _ s k hk⟩, by rw [Lib.bytesWorld_size]; omega, fun i hi => Lib.bytesWorld_cell w _ s i hi⟩

end Go.Proofs.YtbjbgdnjcppjhaaGreatDoor
