/- The functional machine: strings.Cut, strings.SplitN, strconv.Atoi, in its form. -/
import Derived.Test.YtecddhkfhkpeaaaDoorFmIt
import Derived.Shelf.Strings.Split
import Derived.Shelf.Strings.Cut
import Derived.Shelf.LaysM
import Derived.LaidLaws
import Derived.Handed
import Derived.Shelf.Strconv.AtoiAll
set_option autoImplicit true
set_option linter.unusedVariables false
set_option linter.unusedSimpArgs false
set_option linter.unusedSectionVars false
namespace Go.Fm
variable [Strict]
open Go.Proofs Go.Shelf Go.RowKit

theorem Con.weak {P : Program} {G G' : World → Prop} {f : Nat} {F : Fn} (hG : ∀ w, G' w → G w) (h : Con P G f F) : Con P G' f F :=
  fun v r w args bl X hf ha hb hX hg => h v r w args bl X hf ha hb hX fun w' hw => hG w' (hg w' hw)

/-- variables of the library's: the length that its search looks at, two errors -/
structure HasVars (gM gS gR : Nat) (w : World) : Prop where
  m : ∃ m, w.cell? ⟨gM, 0, none⟩ = some (.int .i64 m)
  s : ∃ ev, w.cell? ⟨gS, 0, none⟩ = some ev ∧ (ev = .nilIface ∨ ∃ te pe, ev = .iface te pe)
  r : ∃ ev, w.cell? ⟨gR, 0, none⟩ = some ev ∧ (ev = .nilIface ∨ ∃ te pe, ev = .iface te pe)
def HasAll (P : Program) (gM gS gR : Nat) (w : World) : Prop := HasTab P w ∧ HasVars gM gS gR w

noncomputable def gvCut (s sep : ByteArray) : ByteArray × ByteArray × Bool := (⟨(Lib.cut s.data.toList sep.data.toList).1.toArray⟩, ⟨(Lib.cut s.data.toList sep.data.toList).2.1.toArray⟩, (Lib.cut s.data.toList sep.data.toList).2.2)
noncomputable def cutFn : Fn := ⟨[.val .str, .val .str], .tup (.pair (.val .str) (.pair (.val .str) (.val .bool))), fun v => if ByteArray.size v.1 < 4294967281 then some (gvCut v.1 v.2.1) else none, []⟩
theorem Con.cut {P : Program} {ρ : Ren} {gS gR gM : Nat} (L : LaysM.n145 P ρ) {f : Nat} (hf : ρ.f 145 = f) (hg : ρ.g 1 = gM) : Con P (HasAll P gM gS gR) f cutFn := by
  intro v r w args bl X h ha hbl hX hG
  obtain ⟨u0, us, rfl, h0, u1, us', rfl, h1, rfl, rfl⟩ := ha
  rw [h0.str_inv, h1.str_inv]
  dsimp only [cutFn] at h r ⊢
  split at h
  · rename_i hs
    obtain ⟨m, hm⟩ := (hG w (Frame0.refl w _)).2.m
    have hc := Any.strings_Cut { L with } v.1 v.2.1 m w hs (by rw [hg]; exact hm)
    rw [hf] at hc
    refine hc.mono ?_
    rintro e w' ⟨rfl, n, rfl⟩
    obtain rfl := Option.some.inj h
    refine ⟨_, rfl, ⟨rfl, ⟨rfl, fun _ => Nat.le_add_right _ _⟩, rfl, Nat.le_refl _, fun b hb _ => rfl⟩, [], ?_, List.nodup_nil, by simp⟩
    exact ⟨[_, _, _], rfl, _, _, [], [], rfl, rfl, ⟨rfl, _, rfl, Reg.str _⟩, _, _, [], [], rfl, rfl, ⟨rfl, _, rfl, Reg.str _⟩, rfl, _, rfl, Reg.bool _⟩
  · cases h

noncomputable def gvSplitN (s sep : ByteArray) (n : Int) : List ByteArray := Lib.splitB sep 0 (min n.toNat (s.size + 1) - 1) s
noncomputable def splitNFn (ty : Nat) : Fn := ⟨[.val .str, .val .str, .val (.int .i64)], .own ty .str, fun v => if ByteArray.size v.1 < 4294967281 ∧ 1 ≤ ByteArray.size v.2.1 ∧ (1 : Int) ≤ v.2.2.1 ∧ (v.2.2.1 : Int) ≤ 9223372036854775807 then some (gvSplitN v.1 v.2.1 v.2.2.1) else none, []⟩
theorem Con.splitN {P : Program} {ρ : Ren} {gS gR gM : Nat} (L : Lays.n147 P ρ) {f ty : Nat} (hf : ρ.f 147 = f) (hg : ρ.g 1 = gM) (hty : ρ.t 9 = ty) (hi9 : (P.info? (ρ.t 9)).map (fun i => (i.zero, i.size, i.bytes)) = some (some (.string ByteArray.empty), 1, 16)) : Con P (HasAll P gM gS gR) f (splitNFn ty) := by
  intro v r w args bl X h ha hbl hX hG
  obtain ⟨u0, us, rfl, h0, u1, us', rfl, h1, u2, us2, rfl, h2, rfl, rfl⟩ := ha
  rw [h0.str_inv, h1.str_inv, h2.int_inv]
  obtain ⟨s, sep, n, ⟨⟩⟩ := v
  dsimp only [splitNFn] at h r ⊢
  split at h
  · rename_i hs
    obtain ⟨hs, hs1, hn1, hn2⟩ := hs
    obtain ⟨m, hm⟩ := (hG w (Frame0.refl w _)).2.m
    obtain ⟨k, rfl⟩ := Int.eq_ofNat_of_zero_le (Int.le_trans (by decide) hn1)
    have hn1' : (1 : Int) ≤ (k : Int) := hn1
    have hn2' : (k : Int) ≤ 9223372036854775807 := hn2
    have hk1 : 1 ≤ k := by omega
    have hk2 : k ≤ 9223372036854775807 := by omega
    have hc := Any.strings_SplitN L hi9 s sep k m w hs (by rw [hg]; exact hm) hs1 hk1 hk2
    rw [hf] at hc
    refine hc.mono ?_
    rintro e w' ⟨rfl, rfl⟩
    obtain rfl := Option.some.inj h
    have e1 : gvSplitN s sep (k : Int) = Lib.splitB sep 0 (min k (s.size + 1) - 1) s := rfl
    rw [e1]
    generalize hN : min k (s.size + 1) = N at *
    have hNp : 1 ≤ N := by omega
    have hle : (Lib.splitB sep 0 (N - 1) s).length ≤ N := by have := Lib.splitB_length_le sep 0 (N - 1) s; omega
    have hgr := Grow.alloc w (.cells (Lib.cellsOf (Lib.splitB sep 0 (N - 1) s) N) (ρ.t 9))
    refine ⟨_, rfl, ⟨hgr.os, hgr.tape, hgr.output, hgr.size, fun b hb _ => hgr.block b hb⟩, [w.heap.size], ⟨_, (Lib.splitB sep 0 (N - 1) s).map Value.string, rfl, rfl, ?_, ?_⟩, by simp, by simp⟩
    · rw [← hty]
      refine ⟨by simp [width], .inr ⟨w.heap.size, N, _, rfl, Nat.zero_le _, heap_alloc_new _ _, hle, ?_, ?_, ?_⟩⟩
      · have : maxLen = 9223372036854775807 := by decide
        omega
      · rw [Lib.cellsOf_size hle]; simp [width]
      · simp [Lib.cellsOf, width]
    · exact rows_one (k := .str) rfl
  · cases h

noncomputable def gvAtoi (s : ByteArray) : Int × Bool := match Lib.atoiAll s.data.toList with | .ok v => (v, false) | .range => (Lib.atoiSat s.data.toList, true) | _ => (0, true)
noncomputable def atoiFn : Fn := ⟨[.val .str], .tup (.pair (.val (.int .i64)) (.val .err)), fun v => if ByteArray.size v.1 ≤ 281474976710656 then some (gvAtoi v.1) else none, []⟩
theorem reg_err {w : World} {O : Nat → Prop} {t : TypeId} {p : Value} : Reg w O .err (.iface t p) true := by
  unfold Reg; rw [if_neg (by simp [aggB])]
  exact ⟨rfl, _, rfl, .inr ⟨rfl, t, p, rfl⟩⟩
theorem reg_noerr {w : World} {O : Nat → Prop} : Reg w O .err .nilIface false := by
  unfold Reg; rw [if_neg (by simp [aggB])]
  exact ⟨rfl, _, rfl, .inl ⟨rfl, rfl⟩⟩
theorem Con.atoi (hst : ¬ Strict.t) {P : Program} {ρ : Ren} {gS gR gM : Nat} (L : LaysC.n172 P ρ) {f : Nat} (hf : ρ.f 172 = f) (hg1 : ρ.g 15 = gS) (hg2 : ρ.g 16 = gR) : Con P (HasAll P gM gS gR) f atoiFn := by
  intro v r w args bl X h ha hbl hX hG
  obtain ⟨u0, us, rfl, h0, rfl, rfl⟩ := ha
  rw [h0.str_inv]
  obtain ⟨s, ⟨⟩⟩ := v
  dsimp only [atoiFn] at h r ⊢
  split at h
  · rename_i hs
    obtain rfl := Option.some.inj h
    have hv := (hG w (Frame0.refl w _)).2
    have fin : ∀ (i : Int) (b : Bool) (u : Value) (w' : World), Frame0 w (· ∈ ([] : List Nat)) w' → (∀ O, Reg w' O .err u b) → gvAtoi s = (i, b) →
        ∃ u', Ending.returned (.tuple #[.int .i64 i, u]) = .returned u' ∧ Frame0 w (· ∈ ([] : List Nat)) w' ∧ ∃ bl', ROut w' (fun b => b ∈ bl' ∨ X b) [Value.string s] (.tup (.pair (.val (.int .i64)) (.val .err))) (gvAtoi s) [u'] bl' ∧ bl'.Nodup ∧ ∀ b ∈ bl', w.heap.size ≤ b ∨ b ∈ ([] : List Nat) := by
      intro i b u w' hf hr he
      rw [he]
      exact ⟨_, rfl, hf, [], ⟨[_, _], rfl, _, _, [], [], rfl, rfl, ⟨rfl, _, rfl, Reg.int _ _⟩, rfl, _, rfl, hr _⟩, List.nodup_nil, by simp⟩
    have hbel : ∀ w', Below w.heap.size w w' → Frame0 w (· ∈ ([] : List Nat)) w' := fun w' hb => ⟨hb.os, ⟨hb.tape, fun h => (hst h).elim⟩, hb.output, hb.size, fun b hb' _ => hb.block b hb'⟩
    cases hat : Lib.atoiAll s.data.toList
    · rename_i v
      have hc := Any.strconv_Atoi_ok L s (by omega) v hat w
      rw [hf] at hc
      refine hc.mono ?_
      rintro e w' ⟨rfl, hw⟩
      refine fin v false _ w' (hbel w' ?_) (fun O => reg_noerr) (by unfold gvAtoi; rw [hat])
      rcases hw with rfl | ⟨t, rfl⟩
      · exact Below.refl _ _
      · refine ⟨rfl, rfl, rfl, by rw [Lib.bytesWorld_size]; omega, fun k hk => Lib.bytesWorld_at_old w _ _ k hk⟩
    · skip
      obtain ⟨ev, e1, e2⟩ := hv.s
      have hc := Any.strconv_Atoi_syntax L s hs hat ev w (by rw [hg1]; exact e1) e2
      rw [hf] at hc
      refine hc.mono ?_
      rintro e w' ⟨N, rfl, _, _, hb⟩
      exact fin 0 true _ w' (hbel w' hb) (fun O => reg_err) (by unfold gvAtoi; rw [hat])
    · skip
      obtain ⟨ev, e1, e2⟩ := hv.r
      have hc := Any.strconv_Atoi_range L s hs hat ev w (by rw [hg2]; exact e1) e2
      rw [hf] at hc
      refine hc.mono ?_
      rintro e w' ⟨N, rfl, _, _, hb⟩
      exact fin _ true _ w' (hbel w' hb) (fun O => reg_err) (by unfold gvAtoi; rw [hat])
  · cases h

/-- a listed variable of an interface's type holds a value of it -/
theorem iface_laid {P : Program} {n nm : String} {d : DataW Unit} {r : List (String × DataW Unit)} {W : World} {g : Nat} {ti : TypeId} (h : laidMet P ((n, .iface nm d) :: r) W)
    (hg : P.globalNamed n = some g) (ht : (P.globals[g]?).map (·.type) = some ti) (hi : (match P.underlying ti with | some (.interface _) => true | _ => false) = true) : ∃ te pe, W.cell? ⟨g, 0, none⟩ = some (.iface te pe) := by
  obtain ⟨ps, ⟨g0, t0, cs0, f0, p0, q0, hg0, ht0, hv0, hd0, _, e0⟩, _, hrows⟩ := h
  obtain rfl := Option.some.inj (hg.symm.trans hg0)
  obtain rfl := Option.some.inj (ht.symm.trans ht0)
  split at hi
  · rename_i ms hu
    obtain ⟨f1, u, v, hcs, _⟩ := iface_of_trod hu hd0
    refine ⟨u, v, ?_⟩
    have := World.var?_cell hg0 hv0 0
    have hc : cs0[0]? = some (.iface u v) := by
      have := congrArg (fun z : List Value => z[0]?) hcs
      simpa using this
    rw [this, hc]
  · cases hi
theorem cell_frame {W w' : World} (hf : Frame0 W (· ∈ ([] : List Nat)) w') {g : Nat} {v : Value} (h : W.cell? ⟨g, 0, none⟩ = some v) : w'.cell? ⟨g, 0, none⟩ = some v := by
  have hlt : g < W.heap.size := by
    rcases Nat.lt_or_ge g W.heap.size with h' | h'
    · exact h'
    · unfold World.cell? at h
      simp [Array.getElem?_eq_none h'] at h
  have hb := hf.block g hlt (by simp)
  unfold World.cell? at h ⊢
  simp only [hb]
  exact h
theorem hasAll {P : Program} {ρ : Ren} (L : LaysM.n145 P ρ) {W : World} {a b c : String × DataW Unit} {nm1 nm2 : String} {d1 d2 : DataW Unit} {rest : List (String × DataW Unit)} {g gM gS gR : Nat} {t e tR tS : TypeId}
    (hg : P.globalNamed "internal/strconv.uint64pow10" = some g) (hty : (P.globals[g]?).map (·.type) = some t) (ht : P.underlying t = some (.array 20 e)) (he : P.underlying e = some (.int .u64)) (hce : P.cellsOf e = 1) (hct : P.cellsOf t = 20)
    (hp : ((a :: b :: ("internal/strconv.uint64pow10", Lib.tabData .u64 Lib.pow10Tab) :: c :: ("strconv.ErrRange", .iface nm1 d1) :: ("strconv.ErrSyntax", .iface nm2 d2) :: rest).all fun x => x.2.handleName?.isNone) = true)
    (hM : ρ.g 1 = gM) (hgR : P.globalNamed "strconv.ErrRange" = some gR) (htR : (P.globals[gR]?).map (·.type) = some tR) (hiR : (match P.underlying tR with | some (.interface _) => true | _ => false) = true)
    (hgS : P.globalNamed "strconv.ErrSyntax" = some gS) (htS : (P.globals[gS]?).map (·.type) = some tS) (hiS : (match P.underlying tS with | some (.interface _) => true | _ => false) = true)
    (h : laidMetH P (a :: b :: ("internal/strconv.uint64pow10", Lib.tabData .u64 Lib.pow10Tab) :: c :: ("strconv.ErrRange", .iface nm1 d1) :: ("strconv.ErrSyntax", .iface nm2 d2) :: rest) W) (hS : W.ShapedOpen P) :
    ∀ w', Frame0 W (· ∈ ([] : List Nat)) w' → HasAll P gM gS gR w' := by
  have h1 := hasTab_third hg hty ht he hce hct hp h
  rw [MakeChecks.laidMetH_plain _ _ _ hp] at h
  have h4 := laidTail (laidTail (laidTail (laidTail h)))
  obtain ⟨m, hm⟩ := L.s1_3 W hS
  obtain ⟨te1, pe1, e1⟩ := iface_laid h4 hgR htR hiR
  obtain ⟨te2, pe2, e2⟩ := iface_laid (laidTail h4) hgS htS hiS
  intro w' hf
  exact ⟨h1 w' hf, ⟨m, by rw [← hM]; exact cell_frame hf hm⟩, ⟨_, cell_frame hf e2, .inr ⟨_, _, rfl⟩⟩, ⟨_, cell_frame hf e1, .inr ⟨_, _, rfl⟩⟩⟩
/-- the wrap of a row that lists variables, with the world's shape -/
theorem handed_shaped {H : Type} {enc : TypeId × Value → H} {a : Assume} {C : Checked} {os : Os} {f : FuncId} {fn : Func} {s : ChangeSpec} {conds : List PathCond} {apart fresh handsOn again : Bool} {X : World → Array Value → Prop}
    (hX : ∀ (w w' : World) (args : Array Value), w.heap = w'.heap → X w args → X w' args)
    (own : ownKnob C.prog.godebug = none) (started : os.Started) (noInit : C.prog.inits.idxOf? f = none) (hfn : C.prog.funcs[f]? = some fn)
    (witness : ∃ (w : World) (tape : Tape) (i : Input), w.os = os ∧ (w.forCall tape i).Shaped C.prog ∧ i.vars = [] ∧ Input.okWide C.prog (w.forCall tape i) .any w.heap.size f i ∧
      ((s.pre enc C.prog fn conds apart (w.forCall tape i).memory i.args ∧ X (w.forCall tape i).memory i.args) ∧ sizedMet enc C.prog fn (OpenSpec.ofChange s) apart (w.forCall tape i).memory i.args) ∧ a.holds C.prog (lone (Frame.enter C.prog f i.args .normal) [] (w.forCall tape i)))
    (contract : ∀ (W : World) (base : Nat) (args : Array Value) (ds gs : List (DataW H)) (before : List MemPlace),
      (∀ (j : Nat) t v, fn.params[j]? = some t → args[j]? = some v → Value.okWide C.prog W .any base t v) →
      DataW.Whole enc C.prog fn.params.toList s.vars apart W args.toList ds gs before →
      conds.all (PathCond.test C.prog ⟨fn.params.toList, ds, s.plain.varTypes C.prog, gs⟩) = true →
      (DataW.weightsEach C.prog (fn.params.toList ++ s.plain.varTypes C.prog) (ds ++ gs)).all (· ≤ reachBytes) = true → X W args → W.ShapedOpen C.prog →
      a.holds C.prog (lone (Frame.enter C.prog f args .normal) [] W) →
      Calls C.prog f args W fun e W' => ∃ v, e = .returned v ∧ s.post enc C.prog fn apart fresh handsOn again W args v W') :
    ReturnsInHanded a C os f .any (fun w args => (s.pre enc C.prog fn conds apart w args ∧ X w args) ∧ sizedMet enc C.prog fn (OpenSpec.ofChange s) apart w args) (s.post enc C.prog fn apart fresh handsOn again) := by
  refine returnsInHanded_of_calls own started noInit witness ?_
  intro w tape i _ hsh _ hok hpre hholds
  obtain ⟨_, _, _, fn', hfn', _, _, _, _, hval⟩ := hok
  have e : fn' = fn := Option.some.inj (hfn'.symm.trans hfn)
  subst e
  obtain ⟨⟨⟨ds, gs, before, hw, hc⟩, hx⟩, hz⟩ := hpre
  have hw' := DataW.Whole.of_heap (w' := w.forCall tape i) (by rfl) hw
  refine (contract (w.forCall tape i) w.heap.size i.args ds gs before hval hw' hc (hz.weights hw) (hX _ _ _ (by rfl) hx) hsh hholds).mono fun e W' ⟨v, he, hp⟩ => ?_
  subst he
  exact ChangeSpec.post_blind hp
end Go.Fm
