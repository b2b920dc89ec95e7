/- Ycod: how bytes tell configurations: readers and writers that undo one another -/
import Derived.Test.YtihddficgpjgpaaZYcfgl
import Derived.Test.YtihddficgpjgpaaZMLx
namespace Go.Proofs.Ytihddficgpjgpaa.Y
open Go.RowKit Go.ChangeShapes Go.WideShapes Go.ChangeAt
/-- How something is read from bytes, from a state (how far; has it failed?) on. -/
abbrev Rd (α : Type) := List Int → Nat × Bool → α × (Nat × Bool)
/-- What W writes R reads, and R reads nothing else. -/
structure Cod {α : Type} (R : Rd α) (W : α → List Int) (ok : α → Prop) : Prop where
  le : ∀ {bs : List Int} {s : Nat × Bool}, s.1 ≤ bs.length → (R bs s).2.1 ≤ bs.length
  put : ∀ {bs r : List Int} {k : Nat} {x : α}, k ≤ bs.length → ok x → bs.drop k = W x ++ r → R bs (k, false) = (x, (k + (W x).length, false))
  tell : ∀ {bs : List Int} {s : Nat × Bool}, Pk.Byt bs → s.1 ≤ bs.length → (R bs s).2.2 = false → s.2 = false ∧ ok (R bs s).1 ∧ bs.drop s.1 = W (R bs s).1 ++ bs.drop (R bs s).2.1
theorem drop_after {bs p r : List Int} {k : Nat} (h : bs.drop k = p ++ r) : bs.drop (k + p.length) = r := by rw [← List.drop_drop, h, List.drop_left]
theorem le_after {bs p r : List Int} {k : Nat} (hk : k ≤ bs.length) (h : bs.drop k = p ++ r) : k + p.length ≤ bs.length := by
  have := congrArg List.length h
  rw [List.length_drop, List.length_append] at this
  omega
def numR (n : Nat) : Rd Int := fun bs s => nx bs s n
theorem num_cod {n : Nat} (hn : 0 < n) : Cod (numR n) (Pk.putL n) (fun x => 0 ≤ x ∧ x < 256 ^ n) where
  le := fun hs => nx_le hs n
  put := fun _ hx h => by
    unfold numR
    rw [(nx_put h hn hx).1, Pk.putL_length]
  tell := fun {bs s} hB _ h => by
    obtain ⟨h1, h2, h3, h4⟩ := nx_ok hB h
    exact ⟨h1, nx_bd hB s n, by show bs.drop s.1 = Pk.putL n (nx bs s n).1 ++ bs.drop (nx bs s n).2.1; rw [h3]; exact h4⟩
theorem rdP_le {bs : List Int} : ∀ {m : Nat} {s : Nat × Bool} {acc : List (Int × Int)}, s.1 ≤ bs.length → (rdP bs m s acc).2.1 ≤ bs.length
  | 0, _, _, h => h
  | m + 1, s, acc, h => by
    cases hb : s.2 with
    | true => rw [rdP_bad hb]; exact h
    | false => rw [rdP_go hb]; exact rdP_le (nx_le (nx_le h 4) 1)
theorem labX_le {bs : List Int} {s : Nat × Bool} (h : s.1 ≤ bs.length) : (labX bs s).2.1 ≤ bs.length := by
  have h1 : (labS bs s).1 ≤ bs.length := by
    unfold labS
    split
    · exact nx_le (nx_le h 1) 1
    · exact nx_le (nx_le h 1) 1
  unfold labX
  split
  · exact rdP_le h1
  · exact rdP_le h1
theorem lab_cod : Cod labX labB Tell where
  le := labX_le
  put := fun _ hx h => (labX_put hx h).1
  tell := fun hB hs h => by
    obtain ⟨h1, h2, h3, _, h5⟩ := labX_ok hB hs h
    exact ⟨h1, tell_of h2 h3, h5⟩
section
variable {α β : Type}
def seqR (R1 : Rd α) (R2 : α → Rd β) : Rd (α × β) := fun bs s => (((R1 bs s).1, (R2 (R1 bs s).1 bs (R1 bs s).2).1), (R2 (R1 bs s).1 bs (R1 bs s).2).2)
theorem seq_cod {R1 : Rd α} {R2 : α → Rd β} {W1 : α → List Int} {W2 : α → β → List Int} {ok1 : α → Prop} {ok2 : α → β → Prop} (h1 : Cod R1 W1 ok1) (h2 : ∀ a, Cod (R2 a) (W2 a) (ok2 a)) : Cod (seqR R1 R2) (fun x => W1 x.1 ++ W2 x.1 x.2) (fun x => ok1 x.1 ∧ ok2 x.1 x.2) where
  le := fun hs => (h2 _).le (h1.le hs)
  put := fun {bs r k x} hk hx h => by
    have h' : bs.drop k = W1 x.1 ++ (W2 x.1 x.2 ++ r) := by rw [h, List.append_assoc]
    have e1 := h1.put hk hx.1 h'
    have e2 := (h2 x.1).put (le_after hk h') hx.2 (drop_after h')
    unfold seqR
    simp only [e1, e2, List.length_append, Nat.add_assoc]
  tell := fun {bs s} hB hs h => by
    obtain ⟨a1, a2, a3⟩ := (h2 _).tell hB (h1.le hs) h
    obtain ⟨b1, b2, b3⟩ := h1.tell hB hs a1
    refine ⟨b1, ⟨b2, a2⟩, ?_⟩
    rw [b3, a3, ← List.append_assoc]
    rfl
def mapR (f : α → β) (R : Rd α) : Rd β := fun bs s => (f (R bs s).1, (R bs s).2)
theorem map_cod {f : α → β} {R : Rd α} {W : α → List Int} {ok : α → Prop} (g : β → α) (h : Cod R W ok) (hg : ∀ x, ok x → g (f x) = x) : Cod (mapR f R) (fun y => W (g y)) (fun y => ok (g y) ∧ f (g y) = y) where
  le := fun hs => h.le hs
  put := fun hk hx e => by
    unfold mapR
    rw [h.put hk hx.1 e, hx.2]
  tell := fun {bs s} hB hs e => by
    obtain ⟨a1, a2, a3⟩ := h.tell hB hs e
    have e1 : g (mapR f R bs s).1 = (R bs s).1 := hg _ a2
    refine ⟨a1, ⟨by rw [e1]; exact a2, by rw [e1]; rfl⟩, ?_⟩
    rw [e1]
    exact a3
def chkR (p : α → Bool) (R : Rd α) : Rd α := fun bs s => if p (R bs s).1 = true then R bs s else ((R bs s).1, ((R bs s).2.1, true))
theorem chk_cod {p : α → Bool} {R : Rd α} {W : α → List Int} {ok : α → Prop} (h : Cod R W ok) : Cod (chkR p R) W (fun x => ok x ∧ p x = true) where
  le := fun hs => by
    unfold chkR
    split
    · exact h.le hs
    · exact h.le hs
  put := fun hk hx e => by
    have e1 := h.put hk hx.1 e
    unfold chkR
    rw [e1, if_pos hx.2]
  tell := fun {bs s} hB hs e => by
    by_cases hp : p (R bs s).1 = true
    · have e1 : chkR p R bs s = R bs s := by unfold chkR; rw [if_pos hp]
      rw [e1] at e ⊢
      obtain ⟨a1, a2, a3⟩ := h.tell hB hs e
      exact ⟨a1, ⟨a2, hp⟩, a3⟩
    · unfold chkR at e
      rw [if_neg hp] at e
      cases e
def failR (x : α) : Rd α := fun _ s => (x, (s.1, true))
theorem fail_cod {x : α} {W : α → List Int} : Cod (failR x) W (fun _ => False) where
  le := fun hs => hs
  put := fun _ hx _ => hx.elim
  tell := fun _ _ e => by cases e
def retR (x : α) : Rd α := fun _ s => (x, s)
theorem ret_cod {x : α} : Cod (retR x) (fun _ => []) (fun y => y = x) where
  le := fun hs => hs
  put := fun _ hx _ => by subst hx; rfl
  tell := fun _ _ e => ⟨e, rfl, rfl⟩
theorem ite_cod {c : Prop} [Decidable c] {A B : Rd α} {WA WB : α → List Int} {oA oB : α → Prop} (hA : Cod A WA oA) (hB : Cod B WB oB) : Cod (if c then A else B) (fun x => if c then WA x else WB x) (fun x => if c then oA x else oB x) := by
  by_cases h : c
  · simp only [if_pos h]; exact hA
  · simp only [if_neg h]; exact hB
def manyR (R : Rd α) : Nat → Rd (List α)
  | 0, _, s => ([], s)
  | n + 1, bs, s => if s.2 = true then ([], s) else ((R bs s).1 :: (manyR R n bs (R bs s).2).1, (manyR R n bs (R bs s).2).2)
theorem many_bad {R : Rd α} {n : Nat} {bs : List Int} {s : Nat × Bool} (h : s.2 = true) : manyR R n bs s = ([], s) := by
  cases n with
  | zero => rfl
  | succ n => rw [manyR, if_pos h]
theorem many_go {R : Rd α} {n : Nat} {bs : List Int} {s : Nat × Bool} (h : s.2 = false) : manyR R (n + 1) bs s = ((R bs s).1 :: (manyR R n bs (R bs s).2).1, (manyR R n bs (R bs s).2).2) := by rw [manyR, if_neg (by rw [h]; simp)]
theorem many_cod {R : Rd α} {W : α → List Int} {ok : α → Prop} (h : Cod R W ok) : ∀ n, Cod (manyR R n) (fun l => l.flatMap W) (fun l => l.length = n ∧ ∀ x ∈ l, ok x)
  | 0 => {
    le := fun hs => hs
    put := fun {bs r k x} _ hx _ => by
      obtain rfl := List.eq_nil_of_length_eq_zero hx.1
      rfl
    tell := fun _ _ e => ⟨e, ⟨rfl, fun x hx => by cases hx⟩, rfl⟩ }
  | n + 1 => {
    le := fun {bs s} hs => by
      cases hb : s.2 with
      | true => rw [many_bad hb]; exact hs
      | false => rw [many_go hb]; exact (many_cod h n).le (h.le hs)
    put := fun {bs r k x} hk hx e => by
      match x, hx with
      | y :: t, hx =>
        have hy := hx.2 y List.mem_cons_self
        have e' : bs.drop k = W y ++ (t.flatMap W ++ r) := by rw [e, List.flatMap_cons, List.append_assoc]
        have e1 := h.put hk hy e'
        have e2 := (many_cod h n).put (x := t) (le_after hk e') ⟨by simpa using hx.1, fun z hz => hx.2 z (List.mem_cons_of_mem _ hz)⟩ (drop_after e')
        rw [many_go rfl, e1]
        simp only
        rw [e2, List.flatMap_cons, List.length_append, Nat.add_assoc]
    tell := fun {bs s} hB hs e => by
      cases hb : s.2 with
      | true => rw [many_bad hb] at e; rw [hb] at e; cases e
      | false =>
        rw [many_go hb] at e ⊢
        obtain ⟨a1, a2, a3⟩ := (many_cod h n).tell hB (h.le hs) e
        obtain ⟨b1, b2, b3⟩ := h.tell hB hs a1
        refine ⟨rfl, ⟨by simp [a2.1], fun x hx => ?_⟩, ?_⟩
        · rcases List.mem_cons.1 hx with rfl | hx
          · exact b2
          · exact a2.2 x hx
        · rw [b3, a3]
          simp only [List.flatMap_cons, List.append_assoc] }
theorem Cod.imp {R : Rd α} {W W' : α → List Int} {ok ok' : α → Prop} (h : Cod R W ok) (hW : ∀ x, W x = W' x) (ho : ∀ x, ok x ↔ ok' x) : Cod R W' ok' := by
  obtain rfl : W = W' := funext hW
  obtain rfl : ok = ok' := funext fun x => propext (ho x)
  exact h
end
/-- So many bytes as they are. -/
def tkR (n : Int) : Rd (List Int) := fun bs s => if s.2 = true ∨ n < 0 ∨ (bs.length : Int) < s.1 + n then ([], (s.1, true)) else ((bs.drop s.1).take n.toNat, (s.1 + n.toNat, false))
theorem tk_cod (n : Int) : Cod (tkR n) id (fun l => (l.length : Int) = n ∧ Pk.Byt l) where
  le := fun {bs s} hs => by
    unfold tkR
    split
    · exact hs
    · rename_i h
      show s.1 + n.toNat ≤ bs.length
      omega
  put := fun {bs r k x} hk hx e => by
    have h1 := le_after hk e
    simp only [id] at h1 e
    have hn : n.toNat = x.length := by have := hx.1; omega
    unfold tkR
    rw [if_neg (by have := hx.1; simp; omega), hn]
    simp only [e, List.take_left, id]
  tell := fun {bs s} hB hs e => by
    unfold tkR at e ⊢
    split at e
    · cases e
    · rename_i h
      rw [if_neg h]
      refine ⟨by cases hb : s.2 <;> simp_all, ⟨?_, byt_take (byt_drop hB _) _⟩, ?_⟩
      · simp only [List.length_take, List.length_drop]
        omega
      · show bs.drop s.1 = (bs.drop s.1).take n.toNat ++ bs.drop (s.1 + n.toNat)
        rw [← List.drop_drop, List.take_append_drop]
/-- A map. -/
def mapTup (m : M) : Int × Int × Int × Int × Int := (m.pa, m.sg, m.fr, m.nn, if m.wr then 1 else 0)
def mapOf (x : Int × Int × Int × Int × Int) : M := ⟨x.1, x.2.1, x.2.2.1, x.2.2.2.1, x.2.2.2.2 == 1⟩
def fiveR : Rd (Int × Int × Int × Int × Int) := seqR (numR 2) fun _ => seqR (numR 2) fun _ => seqR (numR 2) fun _ => seqR (numR 2) fun _ => numR 2
def mapR5 : Rd M := mapR mapOf (chkR (fun x => decide (x.2.2.2.2 ≤ 1)) fiveR)
def mapB (m : M) : List Int := Pk.putL 2 m.pa ++ (Pk.putL 2 m.sg ++ (Pk.putL 2 m.fr ++ (Pk.putL 2 m.nn ++ Pk.putL 2 (if m.wr then 1 else 0))))
abbrev In2 (x : Int) : Prop := 0 ≤ x ∧ x < 65536
structure TellM (m : M) : Prop where
  pa : In2 m.pa
  sg : In2 m.sg
  fr : In2 m.fr
  nn : In2 m.nn
theorem map5_cod : Cod mapR5 mapB TellM := by
  have N2 : ∀ _ : Int, Cod (numR 2) (Pk.putL 2) In2 := fun _ => num_cod (by decide)
  refine (map_cod (f := mapOf) mapTup (chk_cod (p := fun x => decide (x.2.2.2.2 ≤ 1)) (seq_cod (N2 0) fun _ => seq_cod (N2 0) fun _ => seq_cod (N2 0) fun _ => seq_cod (N2 0) N2)) ?_).imp (fun _ => rfl) (fun m => ?_)
  · rintro ⟨a, b, c, d, x⟩ ⟨⟨_, _, _, _, h1⟩, h2⟩
    simp only [decide_eq_true_eq] at h2
    have h1' : 0 ≤ x := h1.1
    have : x = 0 ∨ x = 1 := by omega
    rcases this with rfl | rfl <;> rfl
  · constructor
    · intro h
      exact ⟨h.1.1.1, h.1.1.2.1, h.1.1.2.2.1, h.1.1.2.2.2.1⟩
    · intro h
      refine ⟨⟨⟨h.pa, h.sg, h.fr, h.nn, ?_⟩, ?_⟩, ?_⟩
      · show In2 (if m.wr then 1 else 0)
        cases m.wr <;> decide
      · show decide ((if m.wr then (1 : Int) else 0) ≤ 1) = true
        cases m.wr <;> rfl
      · obtain ⟨a, b, c, d, x⟩ := m
        cases x <;> rfl
/-- What an object has by its kind: the clearance, pages, names, data, maps, space, where it begins. -/
abbrev Bd := Lab × Int × Int × List Int × List M × Int × Int
def bd0 : Bd := (⟨0, []⟩, 0, 0, [], [], 0, 0)
def bd1 (x : Int × Int) : Bd := (⟨0, []⟩, x.1, x.2, [], [], 0, 0)
def bd2 (x : Int × Int × List Int) : Bd := (⟨0, []⟩, x.1, 0, x.2.2, [], 0, 0)
def bd4 (x : Int × List M) : Bd := (⟨0, []⟩, 0, 0, [], x.2, 0, 0)
def bd3 (x : Lab × Int × Int) : Bd := (x.1, 0, 0, [], [], x.2.1, x.2.2)
def bdR (k : Int) : Rd Bd :=
  if k = 1 then mapR bd1 (seqR (numR 2) fun _ => numR 4)
  else if k = 2 then mapR bd2 (seqR (numR 1) fun _ => seqR (numR 2) fun n => tkR n)
  else if k = 4 then mapR bd4 (seqR (numR 1) fun n => manyR mapR5 n.toNat)
  else if k = 3 ∨ k = 5 then mapR bd3 (seqR labX fun _ => seqR (numR 1) fun _ => numR 4)
  else if k = 6 then retR bd0 else failR bd0
def bdB (k : Int) (b : Bd) : List Int :=
  if k = 1 then Pk.putL 2 b.2.1 ++ Pk.putL 4 b.2.2.1
  else if k = 2 then Pk.putL 1 b.2.1 ++ (Pk.putL 2 (b.2.2.2.1.length : Int) ++ b.2.2.2.1)
  else if k = 4 then Pk.putL 1 (b.2.2.2.2.1.length : Int) ++ b.2.2.2.2.1.flatMap mapB
  else if k = 3 ∨ k = 5 then labB b.1 ++ (Pk.putL 1 b.2.2.2.2.2.1 ++ Pk.putL 4 b.2.2.2.2.2.2)
  else []
abbrev In1 (x : Int) : Prop := 0 ≤ x ∧ x < 256
abbrev In4 (x : Int) : Prop := 0 ≤ x ∧ x < 4294967296
def okBd (k : Int) (b : Bd) : Prop :=
  if k = 1 then (In2 b.2.1 ∧ In4 b.2.2.1) ∧ bd1 (b.2.1, b.2.2.1) = b
  else if k = 2 then (In1 b.2.1 ∧ In2 (b.2.2.2.1.length : Int) ∧ Pk.Byt b.2.2.2.1) ∧ bd2 (b.2.1, (b.2.2.2.1.length : Int), b.2.2.2.1) = b
  else if k = 4 then (In1 (b.2.2.2.2.1.length : Int) ∧ ∀ m ∈ b.2.2.2.2.1, TellM m) ∧ bd4 ((b.2.2.2.2.1.length : Int), b.2.2.2.2.1) = b
  else if k = 3 ∨ k = 5 then (Tell b.1 ∧ In1 b.2.2.2.2.2.1 ∧ In4 b.2.2.2.2.2.2) ∧ bd3 (b.1, b.2.2.2.2.2.1, b.2.2.2.2.2.2) = b
  else if k = 6 then b = bd0 else False
theorem bd_cod (k : Int) : Cod (bdR k) (bdB k) (okBd k) := by
  have N1 : Cod (numR 1) (Pk.putL 1) In1 := num_cod (by decide)
  have N2 : Cod (numR 2) (Pk.putL 2) In2 := num_cod (by decide)
  have N4 : Cod (numR 4) (Pk.putL 4) In4 := num_cod (by decide)
  refine (ite_cod (c := k = 1) (map_cod (f := bd1) (fun b : Bd => (b.2.1, b.2.2.1)) (seq_cod N2 fun _ => N4) fun x _ => rfl)
    (ite_cod (c := k = 2) (map_cod (f := bd2) (fun b : Bd => (b.2.1, (b.2.2.2.1.length : Int), b.2.2.2.1)) (seq_cod N1 fun _ => seq_cod N2 fun n => tk_cod n) ?_)
    (ite_cod (c := k = 4) (map_cod (f := bd4) (fun b : Bd => ((b.2.2.2.2.1.length : Int), b.2.2.2.2.1)) (seq_cod N1 fun n => many_cod map5_cod n.toNat) ?_)
    (ite_cod (c := k = 3 ∨ k = 5) (map_cod (f := bd3) (fun b : Bd => (b.1, b.2.2.2.2.2.1, b.2.2.2.2.2.2)) (seq_cod lab_cod fun _ => seq_cod N1 fun _ => N4) fun x _ => rfl)
    (ite_cod (c := k = 6) (ret_cod (x := bd0)) (fail_cod (x := bd0) (W := fun _ => []))))))).imp (fun b => ?_) (fun b => ?_)
  · rintro ⟨a, n, l⟩ ⟨_, _, h, _⟩
    simp only [bd2]
    rw [h]
  · rintro ⟨n, l⟩ ⟨h0, h, _⟩
    simp only [bd4]
    have h0' : 0 ≤ n := h0.1
    simp only at h
    rw [h]
    congr 1
    omega
  · unfold bdB
    repeat' split
    all_goals rfl
  · unfold okBd
    simp only [Int.toNat_natCast, true_and]
/-- An object. -/
def obTup (o : Ob) : Int × Int × Lab × Bd := (o.k, o.par, o.lab, o.clr, o.pg, o.nm, o.dat, o.mps, o.sp, o.pc)
def obOf (x : Int × Int × Lab × Bd) : Ob := ⟨x.1, x.2.1, x.2.2.1, x.2.2.2.1, x.2.2.2.2.1, x.2.2.2.2.2.1, x.2.2.2.2.2.2.1, x.2.2.2.2.2.2.2.1, x.2.2.2.2.2.2.2.2.1, x.2.2.2.2.2.2.2.2.2⟩
def obR : Rd Ob := mapR obOf (seqR (numR 1) fun k => seqR (numR 1) fun _ => seqR labX fun _ => bdR k)
def obB (o : Ob) : List Int := Pk.putL 1 o.k ++ (Pk.putL 1 o.par ++ (labB o.lab ++ bdB o.k (obTup o).2.2.2))
structure TellO (o : Ob) : Prop where
  k : In1 o.k
  par : In1 o.par
  lab : Tell o.lab
  bd : okBd o.k (obTup o).2.2.2
theorem ob_cod : Cod obR obB TellO := by
  have N1 : Cod (numR 1) (Pk.putL 1) In1 := num_cod (by decide)
  refine (map_cod (f := obOf) obTup (seq_cod N1 fun k => seq_cod N1 fun _ => seq_cod lab_cod fun _ => bd_cod k) fun _ _ => rfl).imp (fun _ => rfl) fun o => ⟨fun h => ⟨h.1.1, h.1.2.1, h.1.2.2.1, h.1.2.2.2⟩, fun h => ⟨⟨h.k, h.par, h.lab, h.bd⟩, rfl⟩⟩
/-- A configuration. -/
abbrev CfT := Int × Int × Int × (Int × List (Int × Int)) × (Int × List Ob)
def cfOf (x : CfT) : Cf := ⟨x.1, x.2.1, x.2.2.1, x.2.2.2.1.2, x.2.2.2.2.2⟩
def cfTup (c : Cf) : CfT := (c.co, c.fr, c.nm, ((c.sl.length : Int), c.sl), ((c.obs.length : Int), c.obs))
def slR : Rd (Int × Int) := seqR (numR 1) fun _ => numR 1
def slB (s : Int × Int) : List Int := Pk.putL 1 s.1 ++ Pk.putL 1 s.2
def cfR : Rd Cf := mapR cfOf (seqR (numR 1) fun _ => seqR (numR 2) fun _ => seqR (numR 4) fun _ => seqR (seqR (numR 1) fun n => manyR slR n.toNat) fun _ => seqR (numR 1) fun n => manyR obR n.toNat)
def cfB (c : Cf) : List Int := Pk.putL 1 c.co ++ (Pk.putL 2 c.fr ++ (Pk.putL 4 c.nm ++ ((Pk.putL 1 (c.sl.length : Int) ++ c.sl.flatMap slB) ++ (Pk.putL 1 (c.obs.length : Int) ++ c.obs.flatMap obB))))
structure TellC (c : Cf) : Prop where
  co : In1 c.co
  fr : In2 c.fr
  nm : In4 c.nm
  sn : In1 (c.sl.length : Int)
  sl : ∀ s ∈ c.sl, In1 s.1 ∧ In1 s.2
  on : In1 (c.obs.length : Int)
  obs : ∀ o ∈ c.obs, TellO o
theorem cf_cod : Cod cfR cfB TellC := by
  have N1 : Cod (numR 1) (Pk.putL 1) In1 := num_cod (by decide)
  have N2 : Cod (numR 2) (Pk.putL 2) In2 := num_cod (by decide)
  have N4 : Cod (numR 4) (Pk.putL 4) In4 := num_cod (by decide)
  refine (map_cod (f := cfOf) cfTup (seq_cod N1 fun _ => seq_cod N2 fun _ => seq_cod N4 fun _ => seq_cod (seq_cod N1 fun n => many_cod (seq_cod N1 fun _ => N1) n.toNat) fun _ => seq_cod N1 fun n => many_cod ob_cod n.toNat) ?_).imp (fun _ => rfl) fun c => ⟨fun h => ⟨h.1.1, h.1.2.1, h.1.2.2.1, h.1.2.2.2.1.1, h.1.2.2.2.1.2.2, h.1.2.2.2.2.1, h.1.2.2.2.2.2.2⟩, fun h => ⟨⟨h.co, h.fr, h.nm, ⟨h.sn, by simp [cfTup], h.sl⟩, h.on, by simp [cfTup], h.obs⟩, rfl⟩⟩
  rintro ⟨a, b, c, ⟨n, l⟩, m, os⟩ ⟨_, _, _, ⟨h1, h2, _⟩, h3, h4, _⟩
  have h1' : 0 ≤ n := h1.1
  have h3' : 0 ≤ m := h3.1
  simp only at h2 h4
  simp only [cfOf, cfTup]
  rw [show ((l.length : Nat) : Int) = n by omega, show ((os.length : Nat) : Int) = m by omega]
abbrev cfZ : Cf := ⟨0, 0, 0, [], []⟩
/-- What bytes tell: a configuration, or an error. -/
def decV (bs : List Int) : Cf × Int := if (cfR bs (0, false)).2.2 = true ∨ (cfR bs (0, false)).2.1 < bs.length ∨ rightC (cfR bs (0, false)).1 = false then (cfZ, 10) else ((cfR bs (0, false)).1, 0)
theorem dec_put {c : Cf} (hc : TellC c) (hr : rightC c = true) : decV (cfB c) = (c, 0) := by
  have e := cf_cod.put (bs := cfB c) (r := []) (k := 0) (Nat.zero_le _) hc (by simp)
  unfold decV
  rw [e]
  simp [hr]
theorem dec_more {c : Cf} (hc : TellC c) : decV (cfB c ++ [0]) = (cfZ, 10) := by
  have e := cf_cod.put (bs := cfB c ++ [0]) (r := [0]) (k := 0) (Nat.zero_le _) hc (by simp)
  unfold decV
  rw [e]
  simp
theorem dec_tell {bs : List Int} (hB : Pk.Byt bs) (h : (decV bs).2 ≠ 10) : (decV bs).2 = 0 ∧ rightC (decV bs).1 = true ∧ TellC (decV bs).1 ∧ cfB (decV bs).1 = bs := by
  unfold decV at h ⊢
  split at h
  · exact absurd rfl h
  · rename_i hc
    rw [if_neg hc]
    have h1 : (cfR bs (0, false)).2.2 = false := by
      cases hh : (cfR bs (0, false)).2.2 with
      | true => exact absurd (.inl hh) hc
      | false => rfl
    have h2 : rightC (cfR bs (0, false)).1 = true := by
      cases hh : rightC (cfR bs (0, false)).1 with
      | false => exact absurd (.inr (.inr hh)) hc
      | true => rfl
    have h3 := cf_cod.le (bs := bs) (s := (0, false)) (Nat.zero_le _)
    have h4 : (cfR bs (0, false)).2.1 = bs.length := by
      have : ¬ (cfR bs (0, false)).2.1 < bs.length := fun h => hc (.inr (.inl h))
      omega
    obtain ⟨_, a2, a3⟩ := cf_cod.tell hB (s := (0, false)) (Nat.zero_le _) h1
    refine ⟨rfl, h2, a2, ?_⟩
    rw [h4, List.drop_length, List.append_nil] at a3
    exact a3.symm
theorem dec_bad {bs : List Int} (h : (decV bs).2 = 10) : (decV bs).1 = cfZ := by
  unfold decV at h ⊢
  split
  · rfl
  · rename_i hc
    rw [if_neg hc] at h
    cases h
theorem cfB_ge (c : Cf) : 9 ≤ (cfB c).length := by
  unfold cfB
  simp only [List.length_append, Pk.putL_length]
  omega
theorem dec_less {c : Cf} (hc : TellC c) (hB : Pk.Byt (cfB c)) : (decV ((cfB c).take ((cfB c).length - 1))).2 = 10 := Classical.byContradiction fun h => by
  obtain ⟨_, _, h3, h4⟩ := dec_tell (byt_take hB _) h
  generalize (decV ((cfB c).take ((cfB c).length - 1))).1 = c' at h3 h4
  have e := cf_cod.put (bs := cfB c) (r := []) (k := 0) (Nat.zero_le _) hc (by simp)
  have e' := cf_cod.put (bs := cfB c) (r := (cfB c).drop ((cfB c).length - 1)) (k := 0) (x := c') (Nat.zero_le _) h3 (by rw [h4, List.take_append_drop]; rfl)
  rw [e] at e'
  have h5 := congrArg (fun x => x.2.1) e'
  simp only at h5
  rw [h4, List.length_take] at h5
  have := cfB_ge c
  omega
end Go.Proofs.Ytihddficgpjgpaa.Y
