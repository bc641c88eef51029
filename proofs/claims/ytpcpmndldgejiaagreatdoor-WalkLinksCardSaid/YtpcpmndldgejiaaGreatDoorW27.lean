/- Parts of the proof. -/
import Derived.Test.YtpcpmndldgejiaaGreatDoorW26
import Derived.Test.YtpcpmndldgejiaaGreatDoorW05
import Derived.Test.YtpcpmndldgejiaaGreatDoorW09
set_option maxHeartbeats 4000000
set_option linter.unusedVariables false
set_option linter.unusedSimpArgs false
set_option maxHeartbeats 8000000
set_option maxRecDepth 20000
namespace Go.Wk
open Go Go.RowKit
theorem Zzm {F : Fence} {D : List Deferred} {P : Program} {n : Nat} {wr : World} {fr : Fr} {O : List It} {Q : Exit -> Fr -> List It -> Prop} {x y z : Code} (K : Fr -> List It -> Prop) (h : WI F D P n wr x (Zro (WI F D P n wr y (Zro K))) fr O) (hk : ∀ fr' O', K fr' O' -> WI F D P n wr z Q fr' O') : WI F D P n wr (.seq x (.seq y z)) Q fr O :=
 ZuE _ h fun _ _ h' => ZuE K h' hk
end Go.Wk
namespace Go.Proofs.YtpcpmndldgejiaaGreatDoor
open Go Go.RowKit Go.Wk
attribute [local irreducible] W RL Does Zay Zam retQ Calls Pu Stp RD Qy Ay Zan RLI WI Pre
def alO (out : List (Int × Nat)) (ty : List Zaf) (v : Value) (O : List It) : Prop := ∃ Ao co At ct, v = .tuple #[.slice Ao out.length co, .slice At ty.length ct, .int .i64 0] /\ O = [.row (.slice Ao out.length co) 45 2 out.length (out.flatMap Zbs), .row (.slice At ty.length ct) 47 3 ty.length (ty.flatMap Zaf.enc)]
structure AlG where
 k : Nat
 n : Int
 now : Zaf
 ty : List Zaf
 out : List (Int × Nat)
 At : Option Addr
 ct : Nat
 Ao : Option Addr
 co : Nat
def AlG.its (g : AlG) (b13 b14 b15 b16 b17 bm : Nat) : List It := [.blk b13 [.int .i64 g.now.off, .bool g.now.dst, .string g.now.abbr] 47, .blk b14 [.slice g.At g.ty.length g.ct] 39, .blk b15 [.map (some bm)] 96, .blk b16 [.slice g.Ao g.out.length g.co] 38, .blk b17 [.int .i64 g.n] 3, cmIt lkV bm (tyM g.ty), .row (.slice g.At g.ty.length g.ct) 47 3 g.ty.length (g.ty.flatMap Zaf.enc), .row (.slice g.Ao g.out.length g.co) 45 2 g.out.length (g.out.flatMap Zbs)]
structure AlI (rs : List Zaa) (E : List DEra) (b : Int) (OUT : List (Int × Nat)) (TY : List Zaf) (t : Int) (g : AlG) : Prop where
 run : ZjK rs E b g.k t g.now g.ty g.out = some (OUT, TY)
 cnt : g.n + g.k = 50001
 len : g.out.length + g.k <= 50001
 tyl : g.ty.length <= g.out.length + 1
def alR (out : List (Int × Nat)) (ty : List Zaf) (wr : World) : Ending -> World -> Prop := fun e w' => ∃ v O', e = .returned v /\ Bel wr.heap.size wr w' /\ Zax wr.heap.size O' w' /\ alO out ty v O'
theorem ZwM (out : List (Int × Nat)) (ty : List Zaf) (wr : World) {a : Act} {w' : World} {D b8 b9 b10 co ct : Nat} {Ao At : Option Addr} (hs : St 101 wr [(8, .pointer (some ⟨b8, 0, none⟩)), (9, .pointer (some ⟨b9, 0, none⟩)), (10, .pointer (some ⟨b10, 0, none⟩))] [Zb5 D, .blk b8 [.slice Ao out.length co] 38, .blk b9 [.slice At ty.length ct] 39, .blk b10 [.int .i64 0] 40, .row (.slice Ao out.length co) 45 2 out.length (out.flatMap Zbs), .row (.slice At ty.length ct) 47 3 ty.length (ty.flatMap Zaf.enc)] a w') :
  bodyPostM Fence.wide 0 Tryz.prog Tryz.f10 (alR out ty wr) .ret (actD (ZeR D) a) w' := by
 have hK := Zb5.at (hs.own.sat _ List.mem_cons_self)
 have hs2 := Zlo hs
 refine ⟨by simp, .inl ⟨_, _, rfl, run_takeDeferred hK, ?_⟩⟩
 refine ⟨.tuple #[.slice Ao out.length co, .slice At ty.length ct, .int .i64 0], ?_, _, [.row (.slice Ao out.length co) 45 2 out.length (out.flatMap Zbs), .row (.slice At ty.length ct) 47 3 ty.length (ty.flatMap Zaf.enc)], rfl, hs2.old, hs2.own.sub SOA, Ao, co, At, ct, rfl, rfl⟩
 have hres : Tryz.f10.results = [ResultVar.cell 8 38, ResultVar.cell 9 39, ResultVar.cell 10 40].toArray := rfl
 show (results Tryz.f10 a.tmps).run Tryz.prog _ = _
 unfold results
 rw [hres, List.mapM_toArray]
 simp only [Sem.run_bind, Sem.run_map]
 rw [Zcq (P := Tryz.prog) hs2 _ (fun _ => rfl) (fun _ _ => rfl) [ResultVar.cell 8 38, ResultVar.cell 9 39, ResultVar.cell 10 40] [.slice Ao out.length co, .slice At ty.length ct, .int .i64 0] ⟨_, _, rfl, .cell1 rfl (by repeat' constructor), _, _, rfl, .cell1 rfl (by repeat' constructor), _, [], rfl, .cell1 rfl (by repeat' constructor), rfl⟩]
 simp only [Result.andThen_ok, Sem.run_pure]
 rfl
theorem Zgp {G G' : Prop} (k : G') (h : Hold G' -> G := by intro k9; (first | refine walk ?_ | (refine jn ?_; (try intro F); (first | (refine stA ?_) | (apply Zae; exact PuA)); refine fin ?_)); exact k9.out) : G := h ⟨k⟩
theorem Zx6 {G : Prop} (h : G := by (apply ZaE; rfl; rfl; exact e3)) : G := h
theorem ZsD {G G' : Prop} (k : G') (h : Hold G' -> G := by intro k9; (first | (apply RL_pu; rfl; exact Zx6) | (apply RD_Q; rfl; rfl; decide +kernel; rfl; rfl; exact QyWaG0) | refine walk1 ?_ | (refine jn ?_; (try intro F); (first | (refine stA ?_) | (apply Zae; first | exact Zx6 | exact PuA)); first | refine ⟨_, EndsA, QFWaG0, ?_⟩ | refine fin ?_)); exact k9.out) : G := h ⟨k⟩
theorem Zx5 {G : Prop} (h : G := by (apply ZaN; rfl; rfl; exact d1)) : G := h
theorem Zq9 {G : Prop} (h : G := by (apply Zmb (i := (⟨x1, x2, x3⟩ : Zaf)) (j := ⟨n1, n2, n3⟩) (enc := Zaf.enc); rfl; rfl; exact n0)) : G := h
theorem Zq8 {G : Prop} (h : G := by (apply Zso (kv := lkV) (k := ⟨x1, x2, x3⟩); rfl; rfl; (focus repeat' constructor); exact hxv; exact hxo)) : G := h
theorem ZwL (Ar Az Al As : Option Addr) (cr cz cl cs : Nat) (s : Zai) (name : ByteArray) (a b : Int) (i : Nat) (z : ZaY) (r : List ZaI) (out : List (Int × Nat)) (ty : List Zaf) (G : Int -> Prop) (w : World) (h : ZcO w Ar Az Al As cr cz cl cs s) (hn : s.zones.length + s.links.length <= 1000000) (hac : accD s = none)
  (ht : tOk a = true) (ht2 : tOk b = true) (hfol : ZaK s (s.links.length + 1) [] name = (i, 0)) (hi : s.zones[i]? = some z) (hr : ZfB s.rules z.eras = some r)
  (hfd : ∀ Ae ce w', Bel w.heap.size w w' -> Zao w' ((adr Az).add (i * 2)) [.string z.name, .slice Ae z.eras.length ce] -> RdSl w' Ae ce DEra.enc 13 z.eras -> Does Tryz.prog 26 [srcV Ar Az Al As cr cz cl cs s, .string name] w' (FdR s.rules Ae ce z.eras r))
  (hGa : G a) (hGs : ∀ t u, G t -> nxD s.rules z.eras t = some u -> u <= b -> G u) (hN : ∀ t, G t -> NxAt s.rules z.eras r t) (hC : ∀ t, G t -> LcAt s.rules z.eras r t) (hres : allD s.rules z.eras a b = some (out, ty)) :
  Does Tryz.prog 10 [srcV Ar Az Al As cr cz cl cs s, .string name, .int .i64 a, .int .i64 b] w (alO out ty) := by
 obtain ⟨hnz, cs1, ⟨Ae, ce, hEz, rfl⟩, hcz⟩ := h.A.z i _ hi
 have hfo := fun w' (hw : Bel w.heap.size w w') => hfd Ae ce w' hw (hcz.up hw (Nat.le_refl _)) (hEz.up hw)
 unfold FdR at hfo
 have hlt := fun (p : PaL) (t : Int) (hg : G t) w' (hw : Bel w.heap.size w w') (q1 : p.Ae = Ae) (q2 : p.ce = ce) (hs : RdSl w' p.As p.cs ZaI.enc 3 r) (hu : RdLL w' p.Ar p.cr Zaa.enc 11 (z.eras.map (ruEr s.rules))) => ZoE p s.rules z.eras r t w' (h.L.up hw) (h.G.up hw) ⟨by rw [q1, q2]; exact hEz.up hw, hs, hu⟩ (hC t hg)
 have hla := fun (p : PaL) => hlt p a hGa
 have e3 : (!decide ((0 : Int) = 0)) = false := rfl
 obtain ⟨l0, hl0⟩ : ∃ l0, ZaD s.rules z.eras a = l0 := ⟨_, rfl⟩
 unfold allD at hres
 rw [hl0] at hres hla
 simp only [PaL.cells] at hfo hla hlt
 unfold Does
 refine Zw3 101 Tryz.func10 rfl rfl rfl ?_
 -- Zab Tryz.func10
 apply Zfd
 repeat (first | refine Zgp ?_ | (refine jn ?_; (try intro F); (refine bx ?_; intro bk); refine fin ?_) | (apply RD_W; rfl; intro bk))
 apply Zcp
 apply Zfd
 repeat (first | refine walk ?_ | (refine jg ?_; (try intro F); (first | (refine Zac (fun w' _ => Za8 a w') ?_) | (refine bx ?_; intro bk) | (refine stA ?_)); refine fin ?_) | (refine jn ?_; (try intro F); (first | (refine bx ?_; intro bk) | (refine stA ?_) | (apply Zae; exact PuA)); refine fin ?_) | (apply RD_W; rfl; intro bk))
 rw [ht]
 repeat (first | refine walk ?_ | (refine jg ?_; (try intro F); (first | (refine Zac (fun w' _ => Za8 b w') ?_) | (refine bx ?_; intro bk) | (refine stA ?_)); refine fin ?_) | (refine jn ?_; (try intro F); (first | (refine bx ?_; intro bk) | (refine stA ?_) | (apply Zae; exact PuA)); refine fin ?_) | (apply RD_W; rfl; intro bk))
 rw [ht2]
 repeat (first | refine Zgp ?_ | (refine jn ?_; (try intro F); (refine bx ?_; intro bk); refine fin ?_) | (apply RD_W; rfl; intro bk))
 apply Zcp
 apply Zfd
 repeat (first | refine walk ?_ | (refine jg ?_; (try intro F); (first | (apply Zag (h := fun w' hw _ => hfo w' hw); rfl; rintro v O' ⟨p, S, hp1, hp2, rfl, rfl⟩) | (refine bx ?_; intro bk) | (refine stA ?_)); refine fin ?_) | (refine jn ?_; (try intro F); (first | (refine bx ?_; intro bk) | (refine stA ?_) | (apply Zae; exact PuA)); refine fin ?_) | (apply RD_W; rfl; intro bk))
 apply Zcp
 apply Zfd
 repeat (first | refine ZsD ?_ | (refine jn ?_; (try intro F); (refine bx ?_; intro bk); first | refine ⟨_, EndsA, QFWaG0, ?_⟩ | refine fin ?_) | (apply RD_W; rfl; intro bk))
 apply Zcp
 apply Zfd
 repeat (first | refine walk ?_ | (refine jg ?_; (try intro F); (first | (refine ZaF (fun w' hw hO => hla p w' hw hp1 hp2 (ZaW ZaI.len (hO.of (A := .row (.slice p.As r.length p.cs) _ _ _ _) (by repeat' constructor))) (ZaA (hO.of (A := .fact S _) (by repeat' constructor)))) ?_) | (refine bx ?_; intro bk) | (refine stA ?_)); refine fin ?_) | (refine jn ?_; (try intro F); (first | (refine bx ?_; intro bk) | (refine stA ?_) | (apply Zae; exact PuA)); refine fin ?_) | (apply RD_W; rfl; intro bk))
 apply Zcp
 apply Zfd
 repeat (first | refine ZsD ?_ | (refine jn ?_; (try intro F); (refine bx ?_; intro bk); first | refine ⟨_, EndsA, QFWaG0, ?_⟩ | refine fin ?_) | (apply RD_W; rfl; intro bk))
 apply Zcp
 rename_i b4 b8 b9 b10 b11
 generalize bk = b13
 refine Zw1 (fun fr' O' => ∃ b14 b15 bl bm, Sub [(2, .int .i64 a), (3, .int .i64 b), (8, .pointer (some ⟨b8, 0, none⟩)), (9, .pointer (some ⟨b9, 0, none⟩)), (10, .pointer (some ⟨b10, 0, none⟩)), (11, .pointer (some ⟨b11, 0, none⟩)), (13, .pointer (some ⟨b13, 0, none⟩)), (14, .pointer (some ⟨b14, 0, none⟩)), (15, .pointer (some ⟨b15, 0, none⟩))] fr' /\
  SubO [.blk b14 [.slice (some ⟨bl, 0, none⟩) 1 1] 39, .blk bl [.int .i64 l0.off, .bool l0.dst, .string l0.abbr] 47, .blk b15 [.map (some bm)] 96, cmIt lkV bm [(l0, 0)], .blk b8 [.slice none 0 0] 38, .blk b9 [.slice none 0 0] 39, .blk b10 [.int .i64 0] 40, .blk b11 [.slice p.Ae z.eras.length p.ce, .slice p.As r.length p.cs, .slice p.Ar z.eras.length p.cr] 92, .blk b13 [.int .i64 l0.off, .bool l0.dst, .string l0.abbr] 47, .row (.slice p.As r.length p.cs) 150 3 r.length (r.flatMap ZaI.enc), .fact S (fun w => RdLL w p.Ar p.cr Zaa.enc 11 (z.eras.map (ruEr s.rules)))] O') ?_ ?_
 ·repeat' (first | (refine ZAi (fun ba bb bc => ?_) ?_; rotate_left; intro F; (first | (apply Zdr (t := 96) lkV; intro bm) | (apply Zd6 (kv := lkV) (k := l0) (l := []); rfl; rfl; rfl; exact List.not_mem_nil; rfl; (focus repeat' constructor))); refine ⟨_, EndsA, QFA, ?_⟩) | (refine ZAh ?_ ?_ <;> (intro F; (first | (apply Zdr (t := 96) lkV; intro bm) | (apply Zd6 (kv := lkV) (k := l0) (l := []); rfl; rfl; rfl; exact List.not_mem_nil; rfl; (focus repeat' constructor)) | (refine stA ?_) | (apply Zae; exact PuA)); refine ⟨_, EndsA, QFA, ?_⟩)) | (refine js ?_; (first | (apply Zdr (t := 96) lkV; intro bm) | (apply Zd6 (kv := lkV) (k := l0) (l := []); rfl; rfl; rfl; exact List.not_mem_nil; rfl; (focus repeat' constructor)) | (refine bx ?_; intro bk))) | refine walk ?_ | (refine RD_Lw ?_; intro F; (first | (apply Zdr (t := 96) lkV; intro bm) | (apply Zd6 (kv := lkV) (k := l0) (l := []); rfl; rfl; rfl; exact List.not_mem_nil; rfl; (focus repeat' constructor)) | (refine bx ?_; intro bk) | (refine stA ?_) | (apply Zae; exact PuA)); refine ⟨_, EndsA, QFA, ?_⟩) | (refine ZqZ (fun bk => ?_) ?_; rotate_left; intro F; (first | (apply Zdr (t := 96) lkV; intro bm) | (apply Zd6 (kv := lkV) (k := l0) (l := []); rfl; rfl; rfl; exact List.not_mem_nil; rfl; (focus repeat' constructor)) | (refine bx ?_; intro bk) | (refine stA ?_) | (apply Zae; exact PuA)); refine ⟨_, EndsA, QFA, ?_⟩) | (refine ZqY (fun bk => ?_) (fun bk => ?_) ?_; rotate_left 2; intro F; (first | (apply Zdr (t := 96) lkV; intro bm) | (apply Zd6 (kv := lkV) (k := l0) (l := []); rfl; rfl; rfl; exact List.not_mem_nil; rfl; (focus repeat' constructor)) | (refine bx ?_; intro bk) | (refine stA ?_) | (apply Zae; exact PuA)); refine ⟨_, EndsA, QFA, ?_⟩) | (apply RD_W; rfl; intro bk) | (refine ZwT rfl rfl rfl (fun bk => ?_) (fun bk => ?_)) | (refine Zah rfl (fun hc => ?_) (fun hc => ?_)))
  all_goals exact Zcp ⟨_, _, _, _, SFA, SOA⟩
 rintro fr1 O1 ⟨b14, b15, bl, bm, hf, hO⟩
 refine ZzD hf hO ?_
 clear hf hO fr1 O1
 refine ZvO 3 (m := 1) (b := bl) (cs := [.int .i64 l0.off, .bool l0.dst, .string l0.abbr]) (by repeat' constructor) rfl (by decide) ?_
 refine Zsp [.row (.slice p.As r.length p.cs) 150 3 r.length (r.flatMap ZaI.enc), .fact S (fun w => RdLL w p.Ar p.cr Zaa.enc 11 (z.eras.map (ruEr s.rules)))] [.blk b14 [.slice (some ⟨bl, 0, none⟩) 1 1] 39, .row (.slice (some ⟨bl, 0, none⟩) 1 1) 47 3 1 [.int .i64 l0.off, .bool l0.dst, .string l0.abbr], .blk b15 [.map (some bm)] 96, cmIt lkV bm [(l0, 0)], .blk b8 [.slice none 0 0] 38, .blk b9 [.slice none 0 0] 39, .blk b10 [.int .i64 0] 40, .blk b11 [.slice p.Ae z.eras.length p.ce, .slice p.As r.length p.cs, .slice p.Ar z.eras.length p.cr] 92, .blk b13 [.int .i64 l0.off, .bool l0.dst, .string l0.abbr] 47] (PaF p s.rules z.eras r) SOA (fun w' hs => ⟨ZaW ZaI.len (hs _ List.mem_cons_self), ZaA (hs _ (List.mem_cons_of_mem _ List.mem_cons_self))⟩) ?_
 generalize foot _ = S2
 refine ZzE 45 2 ?_
 apply Zfd
 repeat (first | refine Zgp ?_ | (refine jn ?_; (try intro F); (refine bx ?_; intro bk); refine fin ?_) | (apply RD_W; rfl; intro bk))
 apply Zcp
 generalize bk = b16
 apply Zfd
 repeat (first | refine Zgp ?_ | (refine jn ?_; (try intro F); (refine bx ?_; intro bk); refine fin ?_) | (apply RD_W; rfl; intro bk))
 apply Zcp
 generalize bk = b17
 unfold Pre
 intro a9 w9 hs9
 refine wp_seq ?_
 refine ZeM (fun fr' O' => ∃ b3 b4' b5, Sub [(8, .pointer (some ⟨b8, 0, none⟩)), (9, .pointer (some ⟨b9, 0, none⟩)), (10, .pointer (some ⟨b10, 0, none⟩)), (11, .pointer (some ⟨b11, 0, none⟩)), (13, .pointer (some ⟨b13, 0, none⟩)), (14, .pointer (some ⟨b14, 0, none⟩)), (15, .pointer (some ⟨b15, 0, none⟩)), (16, .pointer (some ⟨b16, 0, none⟩)), (17, .pointer (some ⟨b17, 0, none⟩)), (57, .func (.func 64) #[] #[.pointer (some ⟨b3, 0, none⟩), .pointer (some ⟨b4', 0, none⟩), .pointer (some ⟨b5, 0, none⟩)])] fr' /\ SubO (.blk b3 [.slice p.Ae z.eras.length p.ce, .slice p.As r.length p.cs, .slice p.Ar z.eras.length p.cr] 92 :: .blk b4' [.int .i64 a] 2 :: .blk b5 [.int .i64 b] 2 :: .fact S2 (PaF p s.rules z.eras r) :: .blk b8 [.slice none 0 0] 38 :: .blk b9 [.slice none 0 0] 39 :: .blk b10 [.int .i64 0] 40 :: .blk b11 [.slice p.Ae z.eras.length p.ce, .slice p.As r.length p.cs, .slice p.Ar z.eras.length p.cr] 92 :: AlG.its ⟨50001, 0, l0, [l0], [], some ⟨bl, 0, none⟩, 1, none, 0⟩ b13 b14 b15 b16 b17 bm) O') ?_ ?_ a9 w9 hs9
 ·repeat (first | refine walk ?_ | (refine jg ?_; (try intro F); (first | (apply Zag (h := fun w' _ _ => Zmv p z.eras r a b w'); rfl; rintro v O' ⟨b3, b4', b5, rfl, rfl⟩) | (refine bx ?_; intro bk) | (refine stA ?_)); refine fin ?_) | (refine jn ?_; (try intro F); (first | (refine bx ?_; intro bk) | (refine stA ?_) | (apply Zae; exact PuA)); refine fin ?_) | (apply RD_W; rfl; intro bk))
  exact ⟨rfl, b3, b4', b5, SFA, SOA⟩
 rintro a0 w0 fr9 O9 hs0 ⟨b3, b4', b5, hf9, hO9⟩
 have hs1 := hs0.sub hf9 hO9
 refine wp_block ?_
 clear hs0 hs9 hf9 hO9
 refine Zlv (gf := 64) (lb := [.pointer (some ⟨b3, 0, none⟩), .pointer (some ⟨b4', 0, none⟩), .pointer (some ⟨b5, 0, none⟩)]) (fun jump O2 => jump = none /\ ∃ g : AlG, g.out = out /\ g.ty = ty /\ SubO (.blk b8 [.slice none 0 0] 38 :: .blk b9 [.slice none 0 0] 39 :: .blk b10 [.int .i64 0] 40 :: .blk b11 [.slice p.Ae z.eras.length p.ce, .slice p.As r.length p.cs, .slice p.Ar z.eras.length p.cr] 92 :: g.its b13 b14 b15 b16 b17 bm) O2) hs1 rfl ?_ ?_
 ·intro fn L D
  generalize hr0 : Zgx fn a0.tmps 58 _ _ D = r0
  have hit := Zou L b3 b4' b5 p s.rules z.eras r a b S2 (fun g : AlG => Za7 L r0 :: Zb5 D :: .blk b8 [.slice none 0 0] 38 :: .blk b9 [.slice none 0 0] 39 :: .blk b10 [.int .i64 0] 40 :: .blk b11 [.slice p.Ae z.eras.length p.ce, .slice p.As r.length p.cs, .slice p.Ar z.eras.length p.cr] 92 :: g.its b13 b14 b15 b16 b17 bm) G (AlI s.rules z.eras b out ty) w ⟨50001, 0, l0, [l0], [], some ⟨bl, 0, none⟩, 1, none, 0⟩ ⟨hres, by dsimp only; omega, by dsimp only [List.length]; omega, by dsimp only [List.length]; omega⟩ h.G (by rw [hp1, hp2]; exact hEz) hGa hGs hN ?_
  ·refine hit.sub SOA fun v O' ⟨_, t, g, h0, h1, h2, h3⟩ => ?_
   have hrun := h1.run
   obtain ⟨k, n, now, ty', out', At, ct, Ao, co⟩ := g
   dsimp only at hrun
   have hfin : out' = out /\ ty' = ty := by
    rcases k with _ | k
    ·cases hrun
    rw [ZjK] at hrun
    cases hnx : nxD s.rules z.eras t with
    | none =>
     rw [hnx] at hrun
     cases hrun
     exact ⟨rfl, rfl⟩
    | some u =>
     rw [hnx] at hrun
     dsimp only at hrun
     rw [if_pos (h2 u hnx)] at hrun
     cases hrun
     exact ⟨rfl, rfl⟩
   exact ⟨none, _, .ready, SubO.trans (by rw [<- hr0]; exact SOA) h3, by decide, rfl, _, hfin.1, hfin.2, .refl _⟩
  ·rintro t u ⟨k, n, now, ty', out', At, ct, Ao, co⟩ hgt hgu hnx htu hub ⟨i1, i2, i3, i4⟩
   dsimp only at i1 i2 i3 i4
   rcases k with _ | k
   ·cases i1
   rw [ZjK, hnx] at i1
   dsimp only at i1
   rw [if_neg (by omega)] at i1
   have hlu := fun w' hw (hf : PaF p s.rules z.eras r w') => hlt p u hgu w' hw hp1 hp2 hf.1 hf.2
   obtain ⟨x, hx⟩ : ∃ x, ZaD s.rules z.eras u = x := ⟨_, rfl⟩
   rw [hx] at i1 hlu
   have hk : 1 <= k := by
    rcases k with _ | k
    ·split at i1 <;> cases i1
    ·omega
   have d1 : decide (50000 < n + 1) = false := decide_eq_false (by omega)
   have hxo := ZzM x ty'
   have hxv : cget x (tyM ty') = match ixL x ty' 0 with | some j => (j : Int) | none => 0 := Zp2 x ty' 0
   have hout := ZyD (x := x) (ty := ty')
   have hadd := ZyE x ty'
   have hll : (ty' ++ [x]).length = ty'.length + 1 := by simp
   have hlo : ∀ j : Nat, (out' ++ [(u, j)]).length = out'.length + 1 := fun j => by simp
   have hfl : (ty' ++ [x]).flatMap Zaf.enc = ty'.flatMap Zaf.enc ++ [.int .i64 x.off, .bool x.dst, .string x.abbr] := by simp [Zaf.enc]
   have hfo : ∀ j : Nat, (out' ++ [(u, j)]).flatMap Zbs = out'.flatMap Zbs ++ [.int .i64 u, .int .i64 (j : Int)] := fun j => by simp [Zbs]
   refine ZhG (r := r0) (p := 58) (fr := [(8, .pointer (some ⟨b8, 0, none⟩)), (9, .pointer (some ⟨b9, 0, none⟩)), (10, .pointer (some ⟨b10, 0, none⟩)), (11, .pointer (some ⟨b11, 0, none⟩)), (13, .pointer (some ⟨b13, 0, none⟩)), (14, .pointer (some ⟨b14, 0, none⟩)), (15, .pointer (some ⟨b15, 0, none⟩)), (16, .pointer (some ⟨b16, 0, none⟩)), (17, .pointer (some ⟨b17, 0, none⟩))]) (a0 := a0) (O1 := .blk b3 [.slice p.Ae z.eras.length p.ce, .slice p.As r.length p.cs, .slice p.Ar z.eras.length p.cr] 92 :: .blk b4' [.int .i64 a] 2 :: .blk b5 [.int .i64 b] 2 :: .fact S2 (PaF p s.rules z.eras r) :: Za7 L { r0 with state := .busy } :: Zb5 D :: .blk b8 [.slice none 0 0] 38 :: .blk b9 [.slice none 0 0] 39 :: .blk b10 [.int .i64 0] 40 :: .blk b11 [.slice p.Ae z.eras.length p.ce, .slice p.As r.length p.cs, .slice p.Ar z.eras.length p.cr] 92 :: AlG.its ⟨k + 1, n, now, ty', out', At, ct, Ao, co⟩ b13 b14 b15 b16 b17 bm) (by rw [<- hr0]; rfl) (by rw [<- hr0]; rfl) (by rw [<- hr0]; rfl) (hs1.sim.sub SFA) rfl (by repeat' constructor) (by rw [<- hr0]; rfl) ?_
   apply ZcS (Or.inr ⟨_, rfl⟩); rfl; (intro c h; cases h); (apply Pu_assign; rfl)
   refine Zbu ⟨rfl, ?_⟩
   have hbody : ∀ Q fr O, (∀ b : Code, b = r0.body -> WI (Fence.wide.inRound L) [] Tryz.prog 101 w b Q fr O) -> WI (Fence.wide.inRound L) [] Tryz.prog 101 w r0.body Q fr O := fun Q fr O h => h _ rfl
   refine hbody _ _ _ fun bd hb => ?_
   rw [<- hr0] at hb
   dsimp only [Zgx] at hb
   subst hb
   dsimp only [AlG.its]
   refine Zl1 ?_
   obtain ⟨x1, x2, x3⟩ := x
   obtain ⟨n1, n2, n3⟩ := now
   simp only [Zaf.enc] at hlu
   dsimp only at hfl ⊢
   refine ZbY (ZbY (ZbV (Or.inr ⟨_, rfl⟩) (by repeat (first | exact .nil | (refine .plain rfl ?_) | apply Calms.call | apply Calms.append | apply Calms.len)) ?_))
   repeat (first | refine Zgp ?_ | (refine jn ?_; (try intro F); (refine bx ?_; intro bk); refine fin ?_) | (apply RD_W; rfl; intro bk))
   try apply thenQ_n
   refine ZbY (ZbV (Or.inr ⟨_, rfl⟩) (by repeat (first | exact .nil | (refine .plain rfl ?_) | apply Calms.call | apply Calms.append | apply Calms.len)) ?_)
   repeat (first | (apply RL_pu; rfl; exact Zx5) | (apply RD_Q; rfl; rfl; decide +kernel; rfl; rfl; exact QyWaG1) | refine walk1 ?_ | (refine jn ?_; (try intro F); (first | (refine bx ?_; intro bk) | (refine stA ?_) | (apply Zae; first | exact Zx5 | exact PuA)); first | refine ⟨_, EndsA, QFWaG1, ?_⟩ | refine fin ?_) | (apply RD_W; rfl; intro bk))
   try apply thenQ_n
   refine ZbG rfl (fun h => (by cases h)) (fun _ => ?_)
   refine Zeu ?_
   try apply thenQ_n
   refine ZbY (ZbV (Or.inr ⟨_, rfl⟩) (by repeat (first | exact .nil | (refine .plain rfl ?_) | apply Calms.call | apply Calms.append | apply Calms.len)) ?_)
   repeat (first | refine walk ?_ | (refine jg ?_; (try intro F); (first | (refine ZaF (fun w' hw hO => hlu w' hw (ZaA (hO.of (A := .fact S2 _) (by repeat' constructor)))) ?_) | (refine bx ?_; intro bk) | (refine stA ?_)); refine fin ?_) | (refine jn ?_; (try intro F); (first | (refine bx ?_; intro bk) | (refine stA ?_) | (apply Zae; exact PuA)); refine fin ?_) | (apply RD_W; rfl; intro bk))
   try apply thenQ_n
   generalize bk = b19
   refine ZbY (ZbY (ZbV (Or.inr ⟨_, rfl⟩) (by repeat (first | exact .nil | (refine .plain rfl ?_) | apply Calms.call | apply Calms.append | apply Calms.len)) ?_))
   repeat (first | refine ZsD ?_ | (refine jn ?_; (try intro F); (refine bx ?_; intro bk); first | refine ⟨_, EndsA, QFWaG0, ?_⟩ | refine fin ?_) | (apply RD_W; rfl; intro bk))
   try apply thenQ_n
   refine ZbG rfl (fun h => (by cases h)) (fun _ => ?_)
   refine Zeu ?_
   try apply thenQ_n
   refine ZbY (ZbY (ZbV (Or.inr ⟨_, rfl⟩) (by repeat (first | exact .nil | (refine .plain rfl ?_) | apply Calms.call | apply Calms.append | apply Calms.len)) ?_))
   by_cases hxn : (⟨x1, x2, x3⟩ : Zaf) = ⟨n1, n2, n3⟩
   ·have n0 : decide ((⟨x1, x2, x3⟩ : Zaf) = ⟨n1, n2, n3⟩) = true := decide_eq_true hxn
    rw [if_pos hxn] at i1
    repeat (first | (apply RL_pu; rfl; exact Zq9) | (apply RD_Q; rfl; rfl; decide +kernel; rfl; rfl; exact QyWaG2) | refine walk1 ?_ | (refine jn ?_; (try intro F); (first | (refine bx ?_; intro bk) | (refine stA ?_) | (apply Zae; first | exact Zq9 | exact PuA)); first | refine ⟨_, EndsA, QFWaG2, ?_⟩ | refine fin ?_) | (apply RD_W; rfl; intro bk))
    try apply thenQ_n
    refine ZbG rfl (fun _ => ?_) (fun h => (by cases h))
    refine ZjO ?_
    repeat apply thenQ_e
    apply blockQ_hit
    exact ⟨_, (by repeat' constructor), rfl, ⟨k, n + 1, ⟨n1, n2, n3⟩, ty', out', At, ct, Ao, co⟩, ⟨i1, by dsimp only; omega, by dsimp only; omega, i4⟩, by dsimp only [AlG.its]; rw [<- hr0]; exact SOA⟩
   have n0 : decide ((⟨x1, x2, x3⟩ : Zaf) = ⟨n1, n2, n3⟩) = false := decide_eq_false hxn
   rw [if_neg hxn] at i1
   repeat (first | (apply RL_pu; rfl; exact Zq9) | (apply RD_Q; rfl; rfl; decide +kernel; rfl; rfl; exact QyWaG2) | refine walk1 ?_ | (refine jn ?_; (try intro F); (first | (refine bx ?_; intro bk) | (refine stA ?_) | (apply Zae; first | exact Zq9 | exact PuA)); first | refine ⟨_, EndsA, QFWaG2, ?_⟩ | refine fin ?_) | (apply RD_W; rfl; intro bk))
   try apply thenQ_n
   refine ZbG rfl (fun h => (by cases h)) (fun _ => ?_)
   refine Zeu ?_
   try apply thenQ_n
   refine Zzm (fun fr' O' => ∃ (j : Nat) (ty2 : List Zaf) (At2 : Option Addr) (ct2 : Nat), Zdq ty' ⟨x1, x2, x3⟩ = (j, ty2) /\ ty2.length <= ty'.length + 1 /\ Sub [(8, .pointer (some ⟨b8, 0, none⟩)), (9, .pointer (some ⟨b9, 0, none⟩)), (10, .pointer (some ⟨b10, 0, none⟩)), (11, .pointer (some ⟨b11, 0, none⟩)), (13, .pointer (some ⟨b13, 0, none⟩)), (14, .pointer (some ⟨b14, 0, none⟩)), (15, .pointer (some ⟨b15, 0, none⟩)), (16, .pointer (some ⟨b16, 0, none⟩)), (17, .pointer (some ⟨b17, 0, none⟩)), (18, .int .i64 u), (19, .pointer (some ⟨b19, 0, none⟩)), (21, .int .i64 (j : Int))] fr' /\
    SubO (.blk b3 [.slice p.Ae z.eras.length p.ce, .slice p.As r.length p.cs, .slice p.Ar z.eras.length p.cr] 92 :: .blk b4' [.int .i64 a] 2 :: .blk b5 [.int .i64 b] 2 :: .fact S2 (PaF p s.rules z.eras r) :: Za7 L { r0 with state := .busy } :: Zb5 D :: .blk b19 [.int .i64 x1, .bool x2, .string x3] 47 :: .blk b8 [.slice none 0 0] 38 :: .blk b9 [.slice none 0 0] 39 :: .blk b10 [.int .i64 0] 40 :: .blk b11 [.slice p.Ae z.eras.length p.ce, .slice p.As r.length p.cs, .slice p.Ar z.eras.length p.cr] 92 :: AlG.its ⟨k, n + 1, ⟨n1, n2, n3⟩, ty2, out', At2, ct2, Ao, co⟩ b13 b14 b15 b16 b17 bm) O') (ZbV (Or.inr ⟨_, rfl⟩) (by repeat (first | exact .nil | (refine .plain rfl ?_) | apply Calms.call | apply Calms.append | apply Calms.len)) ?_) ?_
   ·cases hix : ixL ⟨x1, x2, x3⟩ ty' 0 with
    | some j =>
     rw [hix] at hxo hxv
     change _ = true at hxo
     change _ = (j : Int) at hxv
     have hadd2 : Zdq ty' ⟨x1, x2, x3⟩ = (j, ty') := by unfold Zdq; rw [hix]
     repeat (first | (apply RL_pu; rfl; exact Zq8) | (apply RD_Q; rfl; rfl; decide +kernel; rfl; rfl; exact QyWaG3) | refine walk1 ?_ | (refine jn ?_; (try intro F); (first | (refine bx ?_; intro bk) | (refine stA ?_) | (apply Zae; first | exact Zq8 | exact PuA)); first | refine ⟨_, EndsA, QFWaG3, ?_⟩ | refine fin ?_) | (apply RD_W; rfl; intro bk))
     try apply Zcp
     refine ZbY (ZbV (Or.inr ⟨_, rfl⟩) (by repeat (first | exact .nil | (refine .plain rfl ?_) | apply Calms.call | apply Calms.append | apply Calms.len)) ?_)
     repeat (first | refine Zgp ?_ | (refine jn ?_; (try intro F); (refine bx ?_; intro bk); refine fin ?_) | (apply RD_W; rfl; intro bk))
     try apply thenQ_n
     refine ZbG rfl (fun h => (by cases h)) (fun _ => ?_)
     refine Zeu ?_
     exact Zcp ⟨j, ty', At, ct, hadd2, Nat.le_succ _, SFA, by dsimp only [AlG.its]; exact SOA⟩
    | none =>
     rw [hix] at hxo hxv
     change _ = false at hxo
     change _ = (0 : Int) at hxv
     have hout2 := hout hix
     have hadd2 : Zdq ty' ⟨x1, x2, x3⟩ = (ty'.length, ty' ++ [⟨x1, x2, x3⟩]) := by unfold Zdq; rw [hix]
     repeat (first | (apply RL_pu; rfl; exact Zq8) | (apply RD_Q; rfl; rfl; decide +kernel; rfl; rfl; exact QyWaG3) | refine walk1 ?_ | (refine jn ?_; (try intro F); (first | (refine bx ?_; intro bk) | (refine stA ?_) | (apply Zae; first | exact Zq8 | exact PuA)); first | refine ⟨_, EndsA, QFWaG3, ?_⟩ | refine fin ?_) | (apply RD_W; rfl; intro bk))
     try apply Zcp
     refine ZbY (ZbV (Or.inr ⟨_, rfl⟩) (by repeat (first | exact .nil | (refine .plain rfl ?_) | apply Calms.call | apply Calms.append | apply Calms.len)) ?_)
     repeat (first | refine Zgp ?_ | (refine jn ?_; (try intro F); (refine bx ?_; intro bk); refine fin ?_) | (apply RD_W; rfl; intro bk))
     try apply thenQ_n
     refine ZbG rfl (fun _ => ?_) (fun h => (by cases h))
     refine ZbY (ZbV (Or.inr ⟨_, rfl⟩) (by repeat (first | exact .nil | (refine .plain rfl ?_) | apply Calms.call | apply Calms.append | apply Calms.len)) ?_)
     repeat (first | refine Zgp ?_ | (refine jn ?_; (try intro F); (refine bx ?_; intro bk); refine fin ?_) | (apply RD_W; rfl; intro bk))
     try apply thenQ_n
     refine Zl0 (Or.inr ⟨_, rfl⟩) rfl (by decide +kernel) (by repeat (first | exact .nil | (refine .plain rfl ?_) | apply Calms.call | apply Calms.append | apply Calms.len)) ?_
     repeat' (first | (refine ZAh ?_ ?_ <;> (intro F; (first | (apply ZgZ (kv := lkV) (k := ⟨x1, x2, x3⟩); rfl; rfl; rfl; exact hout2; exact hadd; (focus repeat' constructor)) | (apply Zau; rfl; rfl; (intro A' c'; (focus repeat' constructor)); (intro w' _ hO; exact Za4 (hO.of (by repeat' constructor))); rfl; rfl; (simp only [maxLen]; omega); omega; intro A' c' hc1 hc2 hc3) | (refine stA ?_) | (apply Zae; exact PuA)); refine ⟨_, EndsA, QFA, ?_⟩)) | (refine js ?_; (first | (apply ZgZ (kv := lkV) (k := ⟨x1, x2, x3⟩); rfl; rfl; rfl; exact hout2; exact hadd; (focus repeat' constructor)) | (apply Zau; rfl; rfl; (intro A' c'; (focus repeat' constructor)); (intro w' _ hO; exact Za4 (hO.of (by repeat' constructor))); rfl; rfl; (simp only [maxLen]; omega); omega; intro A' c' hc1 hc2 hc3) | (refine bx ?_; intro bk))) | refine walk ?_ | (refine RD_Lw ?_; intro F; (first | (apply ZgZ (kv := lkV) (k := ⟨x1, x2, x3⟩); rfl; rfl; rfl; exact hout2; exact hadd; (focus repeat' constructor)) | (apply Zau; rfl; rfl; (intro A' c'; (focus repeat' constructor)); (intro w' _ hO; exact Za4 (hO.of (by repeat' constructor))); rfl; rfl; (simp only [maxLen]; omega); omega; intro A' c' hc1 hc2 hc3) | (refine bx ?_; intro bk) | (refine stA ?_) | (apply Zae; exact PuA)); refine ⟨_, EndsA, QFA, ?_⟩) | (refine ZqZ (fun bk => ?_) ?_; rotate_left; intro F; (first | (apply ZgZ (kv := lkV) (k := ⟨x1, x2, x3⟩); rfl; rfl; rfl; exact hout2; exact hadd; (focus repeat' constructor)) | (apply Zau; rfl; rfl; (intro A' c'; (focus repeat' constructor)); (intro w' _ hO; exact Za4 (hO.of (by repeat' constructor))); rfl; rfl; (simp only [maxLen]; omega); omega; intro A' c' hc1 hc2 hc3) | (refine bx ?_; intro bk) | (refine stA ?_) | (apply Zae; exact PuA)); refine ⟨_, EndsA, QFA, ?_⟩) | (refine ZqY (fun bk => ?_) (fun bk => ?_) ?_; rotate_left 2; intro F; (first | (apply ZgZ (kv := lkV) (k := ⟨x1, x2, x3⟩); rfl; rfl; rfl; exact hout2; exact hadd; (focus repeat' constructor)) | (apply Zau; rfl; rfl; (intro A' c'; (focus repeat' constructor)); (intro w' _ hO; exact Za4 (hO.of (by repeat' constructor))); rfl; rfl; (simp only [maxLen]; omega); omega; intro A' c' hc1 hc2 hc3) | (refine bx ?_; intro bk) | (refine stA ?_) | (apply Zae; exact PuA)); refine ⟨_, EndsA, QFA, ?_⟩) | (apply RD_W; rfl; intro bk) | (refine ZwT rfl rfl rfl (fun bk => ?_) (fun bk => ?_)) | (refine Zah rfl (fun hc => ?_) (fun hc => ?_)))
     all_goals exact Zcp ⟨_, _, _, _, hadd2, by simp, SFA, by dsimp only [AlG.its]; rw [hll, hfl]; exact SOA⟩
   rintro fr2 O2 ⟨j, ty2, At2, ct2, hj, hl2, hf2, hO2⟩
   refine ZAc hf2 hO2 ?_
   clear hf2 hO2 fr2 O2
   rw [hj] at i1
   dsimp only [AlG.its] at i1 ⊢
   refine Zl0 (Or.inr ⟨_, rfl⟩) rfl (by decide +kernel) (by repeat (first | exact .nil | (refine .plain rfl ?_) | apply Calms.call | apply Calms.append | apply Calms.len)) ?_
   repeat' (first | (refine js ?_; (first | (apply Zau; rfl; rfl; (intro A' c'; (focus repeat' constructor)); (intro w' _ hO; exact Za4 (hO.of (by repeat' constructor))); rfl; rfl; (simp only [maxLen]; omega); omega; intro A' c' hc1 hc2 hc3) | (refine bx ?_; intro bk))) | refine walk ?_ | (refine RD_Lw ?_; intro F; (first | (apply Zau; rfl; rfl; (intro A' c'; (focus repeat' constructor)); (intro w' _ hO; exact Za4 (hO.of (by repeat' constructor))); rfl; rfl; (simp only [maxLen]; omega); omega; intro A' c' hc1 hc2 hc3) | (refine bx ?_; intro bk) | (refine stA ?_) | (apply Zae; exact PuA)); refine ⟨_, EndsA, QFA, ?_⟩) | (refine ZqZ (fun bk => ?_) ?_; rotate_left; intro F; (first | (apply Zau; rfl; rfl; (intro A' c'; (focus repeat' constructor)); (intro w' _ hO; exact Za4 (hO.of (by repeat' constructor))); rfl; rfl; (simp only [maxLen]; omega); omega; intro A' c' hc1 hc2 hc3) | (refine bx ?_; intro bk) | (refine stA ?_) | (apply Zae; exact PuA)); refine ⟨_, EndsA, QFA, ?_⟩) | (refine ZqY (fun bk => ?_) (fun bk => ?_) ?_; rotate_left 2; intro F; (first | (apply Zau; rfl; rfl; (intro A' c'; (focus repeat' constructor)); (intro w' _ hO; exact Za4 (hO.of (by repeat' constructor))); rfl; rfl; (simp only [maxLen]; omega); omega; intro A' c' hc1 hc2 hc3) | (refine bx ?_; intro bk) | (refine stA ?_) | (apply Zae; exact PuA)); refine ⟨_, EndsA, QFA, ?_⟩) | (apply RD_W; rfl; intro bk) | (refine ZwT rfl rfl rfl (fun bk => ?_) (fun bk => ?_)) | (refine Zah rfl (fun hc => ?_) (fun hc => ?_)))
   all_goals exact ⟨_, (by repeat' constructor), rfl, ⟨k, n + 1, ⟨x1, x2, x3⟩, ty2, out' ++ [(u, j)], At2, ct2, _, _⟩, ⟨i1, by dsimp only; omega, by dsimp only; rw [hlo]; omega, by dsimp only; rw [hlo]; omega⟩, by dsimp only [AlG.its]; rw [hlo j, hfo j, <- hr0]; exact SOA⟩
 ·rintro jump O2 D w4 ⟨rfl, ⟨k, n, now, ty', out', At, ct, Ao, co⟩, hgo, hgt, hsub⟩ hs4
  dsimp only at hgo hgt
  rw [hgo, hgt] at hsub
  dsimp only [AlG.its] at hsub
  have hs5 : St 101 w [(8, .pointer (some ⟨b8, 0, none⟩)), (9, .pointer (some ⟨b9, 0, none⟩)), (10, .pointer (some ⟨b10, 0, none⟩)), (14, .pointer (some ⟨b14, 0, none⟩)), (16, .pointer (some ⟨b16, 0, none⟩))] [Zb5 D, .blk b8 [.slice none 0 0] 38, .blk b9 [.slice none 0 0] 39, .blk b10 [.int .i64 0] 40, .blk b14 [.slice At ty.length ct] 39, .blk b16 [.slice Ao out.length co] 38, .row (.slice Ao out.length co) 45 2 out.length (out.flatMap Zbs), .row (.slice At ty.length ct) 47 3 ty.length (ty.flatMap Zaf.enc)] a0 w4 := hs4.sub SFA (.cons .here (SubO.trans SOA hsub))
  show (Code.seq _ _).wp _ _ _ _
  have key : ∀ c' Q' Q3, WI Fence.wide (ZeR D) Tryz.prog 101 w c' Q' [(8, .pointer (some ⟨b8, 0, none⟩)), (9, .pointer (some ⟨b9, 0, none⟩)), (10, .pointer (some ⟨b10, 0, none⟩)), (14, .pointer (some ⟨b14, 0, none⟩)), (16, .pointer (some ⟨b16, 0, none⟩))] [Zb5 D, .blk b8 [.slice none 0 0] 38, .blk b9 [.slice none 0 0] 39, .blk b10 [.int .i64 0] 40, .blk b14 [.slice At ty.length ct] 39, .blk b16 [.slice Ao out.length co] 38, .row (.slice Ao out.length co) 45 2 out.length (out.flatMap Zbs), .row (.slice At ty.length ct) 47 3 ty.length (ty.flatMap Zaf.enc)] -> (∀ e a' w', Ztx (ZeR D) 101 w Q' e a' w' -> Q3 e a' w') -> c'.wp Tryz.prog Q3 (actD (ZeR D) a0) w4 := fun c' Q' Q3 h hq => (wpIn_wide (n := 0)).1 (wpIn_mono (h.at hs5) hq)
  refine key _ (fun e fr O => e = .ret /\ Sub [(8, .pointer (some ⟨b8, 0, none⟩)), (9, .pointer (some ⟨b9, 0, none⟩)), (10, .pointer (some ⟨b10, 0, none⟩))] fr /\ SubO [Zb5 D, .blk b8 [.slice Ao out.length co] 38, .blk b9 [.slice At ty.length ct] 39, .blk b10 [.int .i64 0] 40, .row (.slice Ao out.length co) 45 2 out.length (out.flatMap Zbs), .row (.slice At ty.length ct) 47 3 ty.length (ty.flatMap Zaf.enc)] O) _ (ZbY (Zl0 (.inl rfl) rfl (by decide +kernel) (by repeat (first | exact .nil | (refine .plain rfl ?_) | apply Calms.call | apply Calms.append | apply Calms.len)) ?_)) ?_
  ·repeat (first | refine Zgp ?_ | (refine jn ?_; (try intro F); (refine bx ?_; intro bk); refine fin ?_) | (apply RD_W; rfl; intro bk))
   try apply thenQ_n
   refine ZhW ?_
   exact ⟨rfl, SFA, SOA⟩
  ·rintro e a' w' ⟨hd, fr', O', hs', rfl, hf, hO⟩
   have h := ZwM out ty w (hs'.sub hf hO)
   rw [Zd5 hd] at h
   exact h
end Go.Proofs.YtpcpmndldgejiaaGreatDoor
namespace Go.Proofs.YtpcpmndldgejiaaGreatDoor
open Go Go.RowKit Go.Wk
theorem Zbl.prev_year {l : List Zaa} (h : Zbl l) {off : Int} (ho : -43200 <= off /\ off <= 43200) {e : Zad} (he : EvOf l e) (hb : 6000000000 <= Zbk l e off) : ∃ g, EvOf l g /\ Zbk l g off < Zbk l e off /\ Zbk l e off <= Zbk l g off + 50000000 := by
 obtain ⟨j, r, y, h1, h2⟩ := he
 have hr := h.rule r (List.mem_of_getElem? h1)
 obtain ⟨_, _, _, _, a1, a2⟩ := hr.ev h.least h2
 have n1 := h.inst_near ho e
 have hs := ZiY r.month
 have hy : 2151 <= y := by
  refine Int.not_lt.1 fun hh => ?_
  have hm : mar1 y <= mar1 2150 := Zhj (by omega)
  have h5 : mar1 2150 <= 66000 := by decide
  omega
 obtain ⟨g, hg⟩ := hr.onY (Zak l) (j : Int) (y := y - 1) (by have := hr.f1; omega) (by have := Zlz h2; omega)
 obtain ⟨_, _, _, _, b1, b2⟩ := hr.ev h.least hg
 have n2 := h.inst_near ho g
 have hm := ZiS (y - 1)
 rw [show y - 1 + 1 = y by omega] at hm
 have hlh : hiS r.month <= loS r.month + 92 := by
  unfold loS hiS
  split
  ·omega
  ·split <;> omega
 exact ⟨g, ⟨j, r, y - 1, h1, hg⟩, by omega, by omega⟩
theorem Zbl.evt_any {l : List Zaa} (h : Zbl l) {off : Int} (ho : -43200 <= off /\ off <= 43200) (t : Int) : ∃ o, evtD l off t = some o /\ ∀ u, o = some u -> t < u := by
 have near := h.inst_near ho
 unfold evtD
 rw [Zh8]
 cases hb : Zb9 l (t - 259200) with
 | none => exact ⟨none, rfl, fun u hu => by cases hu⟩
 | some e =>
  dsimp only
  obtain ⟨a2, a3⟩ := ZgV hb
  by_cases h1 : t < Zbk l e off
  ·rw [if_pos h1]
   exact ⟨_, rfl, fun u hu => by cases hu; exact h1⟩
  rw [if_neg h1, Zh8]
  cases hc : Zb9 l e.nominal with
  | none => exact ⟨none, rfl, fun u hu => by cases hu⟩
  | some f =>
   dsimp only
   obtain ⟨b2, b3⟩ := ZgV hc
   have g := h.gap b2 a2 (fun hh => by rw [hh] at b3; omega)
   have nf := near f
   have h2 : t < Zbk l f off := by omega
   rw [if_pos h2]
   exact ⟨_, rfl, fun u hu => by cases hu; exact h2⟩
theorem ZaJ.evt_wide {rs : List Zaa} {l : List DEra} {Y : Nat -> Int} (h : ZaJ rs l Y) {t : Int} (h0 : -9223372036854775808 <= t) (h1 : t < 9223372036854775807) : ∃ o, evtD (ruEr rs (eAt rs l t)) (eAt rs l t).off t = some o /\ ∀ u, o = some u -> t < u := by
 obtain ⟨r, x, a1, a2, a3, a4, a5, a6, a7, a8, a9⟩ := h.at h0 h1
 by_cases h2 : (eAt rs l t).kind = 2
 ·obtain ⟨_, ho, hS, _⟩ := a9.set2 h2
  unfold ruEr
  rw [if_pos h2]
  exact hS.evt_any ho t
 ·refine ⟨none, ?_, fun u hu => by cases hu⟩
  unfold ruEr
  rw [if_neg h2]
  exact Znv _ _ _ _
theorem Zv2 {fin t : Int} {o : Option Int} (hf : t < fin) (ho : ∀ u, o = some u -> t < u) {v : Int} (hv : Zdt fin o = some v) : t < v := by
 unfold Zdt at hv
 split at hv
 ·cases hv
 cases hv
 rcases ZoJ fin o with hh | hh
 ·omega
 ·exact ho _ hh
section
variable {rs : List Zaa} {l : List DEra} {Y : Nat -> Int} (h : ZaJ rs l Y)
include h
theorem ZaJ.nx_up {t u : Int} (h0 : -3000000000000 <= t) (h1 : t <= 3000000000000) (hu : nxD rs l t = some u) : u <= t + 50000000 \/ u <= 10000000000 := by
 have hn := h.nx h0 h1
 rw [hu] at hn
 obtain ⟨⟨n1, n2⟩, n3, n4⟩ := hn
 obtain ⟨r, x, a1, a2, a3, a4, a5, a6, a7, a8, a9⟩ := h.at (t := t) (by omega) (by omega)
 rcases n2 with n2 | ⟨n5, f, n6, n7⟩
 ·obtain ⟨_, _, c3⟩ := Zp8 rs l _ 0 r a1 _ x a2
  rcases c3 with ⟨_, c4⟩ | ⟨c4, c5, e, c6, c7⟩
  ·omega
  ·have := h.end_bd c6 c4
   omega
 ·by_cases hb : u <= 10000000000
  ·exact .inr hb
  obtain ⟨_, ho, hS, _⟩ := a9.set2 n5
  obtain ⟨g, g1, g2, g3⟩ := hS.prev_year ho n6 (by omega)
  by_cases hg : t < Zbk (ofB rs (eAt rs l t).set) g (eAt rs l t).off
  ·have := n4 _ ⟨hg, .inr ⟨n5, g, g1, rfl⟩⟩
   omega
  ·omega
theorem ZaJ.two {p t u : Int} (h0 : -3000000000000 <= p) (h1 : p <= 2000000000000) (hp : nxD rs l p = some t) (hu : nxD rs l t = some u) (he : Za9 rs l (t - 1) = Za9 rs l u) : 144000 < u - t := by
 have ht := h.nx_up h0 (by omega) hp
 have hpt := (h.nx_lt h0 (by omega) hp).1
 have hut := (h.nx_lt (by omega) (by omega) hu).1
 have hub := h.nx_up (by omega) (by omega) hu
 have hn1 := h.nx (t := p) h0 (by omega)
 rw [hp] at hn1
 obtain ⟨⟨_, n2⟩, _, n4⟩ := hn1
 have hf := n4 _ (h.fin_brk (t := p) (by omega) (by omega))
 obtain ⟨c1, c2, c3⟩ := h.same (t := p) (s := t - 1) (by omega) (by omega) (by omega) (by omega)
 have hne : l ≠ [] := fun hh => by have := h.len.1; rw [hh] at this; simp at this
 have ends : ∀ q v, -3000000000000 <= q -> q < v -> v <= 3000000000000 -> v = Ze4 rs l q -> Za9 rs l q ≠ Za9 rs l v := fun q v q0 q1 q2 q3 hh => by
  obtain ⟨r, x, a1, a2, a3, a4, a5, _⟩ := h.at (t := q) (by omega) (by omega)
  obtain ⟨r', y, b1, b2, b3, b4, b5, _⟩ := h.at (t := v) (by omega) (by omega)
  rw [a1] at b1
  cases b1
  rw [<- hh, a2] at b2
  cases b2
  omega
 obtain ⟨r, x, a1, _⟩ := h.at (t := p) (by omega) (by omega)
 have m1 := (Zhr a1 hne (a := p) (b := t) (by omega) (by omega) (by omega)).1
 have m2 := (Zhr a1 hne (a := t) (b := u) (by omega) (by omega) (by omega)).1
 rw [c1] at he
 have hpe : Za9 rs l t = Za9 rs l p := by omega
 have hte : Za9 rs l t = Za9 rs l u := by omega
 rcases n2 with n2 | ⟨n5, f, n6, n7⟩
 ·exact absurd hpe.symm (ends p t h0 hpt (by omega) n2)
 have hee : eAt rs l t = eAt rs l p := by unfold eAt; rw [hpe]
 have hn2 := h.nx (t := t) (by omega) (by omega)
 rw [hu] at hn2
 obtain ⟨⟨_, k2⟩, _, _⟩ := hn2
 rcases k2 with k2 | ⟨_, g, k6, k7⟩
 ·exact absurd hte (ends t u (by omega) hut (by omega) k2)
 rw [hee] at k6 k7
 obtain ⟨_, _, _, _, _, _, _, _, _, _, a9⟩ := h.at (t := p) (by omega) (by omega)
 obtain ⟨_, ho, hS, _⟩ := a9.set2 n5
 have near := hS.inst_near ho
 have nf := near f
 have ng := near g
 have hgp := hS.gap n6 k6 (fun hh => by rw [hh] at n7; omega)
 omega
theorem ZaJ.nx_end : nxD rs l 36028797018963968 = none := by
 obtain ⟨r, x, a1, a2, a3, a4, a5, a6, a7, a8, a9⟩ := h.at (t := 36028797018963968) (by decide) (by decide)
 obtain ⟨o, b1, b2⟩ := h.evt_wide (t := 36028797018963968) (by decide) (by decide)
 unfold nxD
 rw [b1, a5, Option.getD_some]
 unfold Zdt
 rw [if_pos]
 rcases ZoJ x.fin o with hh | hh
 ·omega
 ·exact b2 _ hh
theorem ZaJ.all_back {a b : Int} (h0 : -3000000000000 <= a) (h1 : a <= 3000000000000) (hb : b < a) : allD rs l a b = some ([], [ZaD rs l a]) := by
 unfold allD
 obtain ⟨N, hN⟩ : ∃ N, (50001 : Nat) = N + 1 := ⟨50000, rfl⟩
 rw [hN, ZjK]
 cases hn : nxD rs l a with
 | none => rfl
 | some u =>
  have := (h.nx_lt h0 h1 hn).1
  dsimp only
  rw [if_pos (by omega)]
theorem ZaJ.btw {t u : Int} (h0 : -3000000000000 <= t) (h1 : t <= 2000000000000) (hu : nxD rs l t = some u) : t < u /\ u <= 2900000000000 /\ ZaD rs l (u - 1) = ZaD rs l t /\ ZaD rs l (t + (u - t) / 2) = ZaD rs l t /\ nxD rs l (u - 1) = some u := by
 have hlt := (h.nx_lt h0 (by omega) hu).1
 have hub := h.nx_up h0 (by omega) hu
 have hs : ∀ s, t <= s -> s < u -> ZaD rs l s = ZaD rs l t := fun s hs1 hs2 => (h.nx_same (t := t) (s := s) h0 (by omega) hs1 fun v hv => by rw [hu] at hv; cases hv; exact hs2).1
 exact ⟨hlt, by omega, hs _ (by omega) (by omega), hs _ (by omega) (by omega), h.nx_again (t := t) h0 (by omega) hu (by omega) (by omega)⟩
end
theorem ZjJ (rs : List Zaa) (l : List DEra) (to : Int) : ∀ (k : Nat) (t : Int) (now : Zaf) (ty : List Zaf) (out OUT : List (Int × Nat)) (TY : List Zaf), ZjK rs l to k t now ty out = some (OUT, TY) -> OUT.length <= out.length + k /\ TY.length <= ty.length + k
 | 0, _, _, _, _, _, _, h => by cases h
 | k + 1, t, now, ty, out, OUT, TY, h => by
  rw [ZjK] at h
  cases hn : nxD rs l t with
  | none =>
   rw [hn] at h
   cases h
   omega
  | some u =>
   rw [hn] at h
   dsimp only at h
   by_cases h1 : to < u
   ·rw [if_pos h1] at h
    cases h
    omega
   rw [if_neg h1] at h
   by_cases h2 : ZaD rs l u = now
   ·rw [if_pos h2] at h
    have := ZjJ rs l to k u now ty out OUT TY h
    omega
   ·rw [if_neg h2] at h
    obtain ⟨a1, a2⟩ := ZjJ rs l to k u _ _ _ OUT TY h
    have hl : (Zdq ty (ZaD rs l u)).2.length <= ty.length + 1 := by
     unfold Zdq
     cases ixL (ZaD rs l u) ty 0 with
     | none => simp
     | some i => simp
    rw [List.length_append] at a1
    simp only [List.length_cons, List.length_nil] at a1
    omega
theorem Zil {rs : List Zaa} {l : List DEra} {a b : Int} {out : List (Int × Nat)} {ty : List Zaf} (h : allD rs l a b = some (out, ty)) : out.length <= 50001 /\ ty.length <= 50002 := by
 unfold allD at h
 obtain ⟨N, hN⟩ : ∃ N, (50001 : Nat) = N := ⟨_, rfl⟩
 rw [hN] at h
 have h1 := ZjJ rs l b N a (ZaD rs l a) [ZaD rs l a] [] out ty h
 simp only [List.length_cons, List.length_nil] at h1
 omega
section
variable {rs : List Zaa} {l : List DEra}
theorem Zln : ∀ (c d : List Int) (ty : List Zaf), tyF rs l (c ++ d) ty = ((tyF rs l c ty).1 ++ (tyF rs l d (tyF rs l c ty).2).1, (tyF rs l d (tyF rs l c ty).2).2)
 | [], d, ty => by simp [tyF]
 | u :: c, d, ty => by
  rw [List.cons_append, tyF, Zln c d]
  simp [tyF]
def tyTo (rs : List Zaa) (l : List DEra) (c : List Int) (ty : List Zaf) (k : Nat) : List Zaf := (tyF rs l (c.take k) ty).2
theorem ZzL (c : List Int) (ty : List Zaf) : tyTo rs l c ty 0 = ty := by simp [tyTo, tyF]
theorem ZvY (c : List Int) (ty : List Zaf) : tyTo rs l c ty c.length = (tyF rs l c ty).2 := by simp [tyTo]
theorem ZsH {c : List Int} {k : Nat} {u : Int} (hk : c[k]? = some u) (ty : List Zaf) : (tyF rs l c ty).1[k]? = some (u, (Zdq (tyTo rs l c ty k) (ZaD rs l u)).1) /\ tyTo rs l c ty (k + 1) = (Zdq (tyTo rs l c ty k) (ZaD rs l u)).2 := by
 have hlt := (List.getElem?_eq_some_iff.1 hk).1
 have hc : c = c.take k ++ (u :: c.drop (k + 1)) := by
  obtain ⟨h1, h2⟩ := List.getElem?_eq_some_iff.1 hk
  rw [<- h2, List.getElem_cons_drop, List.take_append_drop]
 have ht : c.take (k + 1) = c.take k ++ [u] := by rw [List.take_add_one, hk]; rfl
 refine ⟨?_, ?_⟩
 ·have e : (tyF rs l c ty).1 = (tyF rs l (c.take k) ty).1 ++ (tyF rs l (u :: c.drop (k + 1)) (tyTo rs l c ty k)).1 := by
   conv => lhs; rw [hc]
   rw [Zln]
   rfl
  rw [e, List.getElem?_append_right (by rw [ZfY, List.length_take]; omega), ZfY, List.length_take, show k - min k c.length = 0 by omega, tyF]
  rfl
 ·rw [tyTo, ht, Zln]
  rfl
theorem Zkk (c : List Int) {ty : List Zaf} (hn : ty.Nodup) (k : Nat) : (tyTo rs l c ty k).Nodup := (Zdy rs l _ ty hn).1
theorem Zp1 (c : List Int) {ty : List Zaf} (hn : ty.Nodup) (k : Nat) : ∃ more, (tyF rs l c ty).2 = tyTo rs l c ty k ++ more := by
 have h1 : tyF rs l c ty = tyF rs l (c.take k ++ c.drop k) ty := by rw [List.take_append_drop]
 rw [h1, Zln]
 exact (Zdy rs l _ _ (Zkk c hn k)).2.1
theorem ZyC {c : List Int} {k : Nat} {u : Int} (hk : c[k]? = some u) {ty : List Zaf} (hn : ty.Nodup) : ∃ j, (tyF rs l c ty).1[k]? = some (u, j) /\ (tyF rs l c ty).2[j]? = some (ZaD rs l u) /\ ((j < (tyTo rs l c ty k).length /\ (tyTo rs l c ty (k + 1)).length = (tyTo rs l c ty k).length) \/ (j = (tyTo rs l c ty k).length /\ (tyTo rs l c ty (k + 1)).length = (tyTo rs l c ty k).length + 1)) := by
 obtain ⟨h1, h2⟩ := ZsH (rs := rs) (l := l) hk ty
 obtain ⟨a1, a2, a3⟩ := Zk2 (tyTo rs l c ty k) (ZaD rs l u) (Zkk c hn k)
 obtain ⟨more, hm⟩ := Zp1 (rs := rs) (l := l) c hn (k + 1)
 refine ⟨_, h1, ?_, ?_⟩
 ·rw [hm, h2, List.getElem?_append_left (List.getElem?_eq_some_iff.1 a2).1]
  exact a2
 ·rw [h2]
  rcases a3 with ⟨a3, a4⟩ | ⟨a3, a4⟩
  ·exact .inl ⟨a3, by rw [a4]⟩
  ·exact .inr ⟨a3, by rw [a4]; simp⟩
theorem ZyB (c : List Int) {ty : List Zaf} (hn : ty.Nodup) (k : Nat) : (tyTo rs l c ty k).length <= (tyF rs l c ty).2.length := by
 obtain ⟨more, hm⟩ := Zp1 (rs := rs) (l := l) c hn k
 rw [hm, List.length_append]
 omega
end
def ZiI (rs : List Zaa) (l : List DEra) (a : Int) (c : List Int) : Nat -> Zaf
 | 0 => ZaD rs l a
 | k + 1 => ZaD rs l (c.getD k 0)
theorem IsCh.at {rs : List Zaa} {l : List DEra} : ∀ {c : List Int} {a b : Int}, IsCh rs l a b c -> ∀ (k : Nat) (u : Int), c[k]? = some u -> a < u /\ u <= b /\ ZaD rs l (u - 1) = ZiI rs l a c k /\ ZaD rs l u ≠ ZiI rs l a c k /\ ∀ v, 0 < k -> c[k - 1]? = some v -> v < u
 | [], _, _, _, k, u, hk => by simp at hk
 | x :: c, a, b, h, 0, u, hk => by
  simp only [List.getElem?_cons_zero, Option.some.injEq] at hk
  subst hk
  obtain ⟨h1, h2, h3, h4, _⟩ := h.head
  exact ⟨h1, h2, h3, h4, fun v hv => absurd hv (Nat.lt_irrefl 0)⟩
 | x :: c, a, b, h, k + 1, u, hk => by
  simp only [List.getElem?_cons_succ] at hk
  obtain ⟨h1, h2, h3, h4, h5⟩ := h.head
  obtain ⟨g1, g2, g3, g4, g5⟩ := IsCh.at h5 k u hk
  have hp : ZiI rs l x c k = ZiI rs l a (x :: c) (k + 1) := by cases k <;> simp [ZiI]
  rw [<- hp]
  refine ⟨by omega, g2, g3, g4, fun v _ hv => ?_⟩
  rw [Nat.add_sub_cancel] at hv
  rcases k with _ | k
  ·simp only [List.getElem?_cons_zero, Option.some.injEq] at hv
   omega
  ·simp only [List.getElem?_cons_succ] at hv
   exact g5 v (Nat.succ_pos k) (by simpa using hv)
theorem IsCh.last {rs : List Zaa} {l : List DEra} : ∀ {c : List Int} {a b : Int}, IsCh rs l a b c -> a <= b -> ZaD rs l b = ZiI rs l a c c.length
 | [], _, _, h, hab => h.nil hab
 | x :: c, a, b, h, hab => by
  obtain ⟨h1, h2, h3, h4, h5⟩ := h.head
  have := IsCh.last h5 h2
  rw [this]
  rcases c with _ | ⟨y, c⟩
  ·simp [ZiI]
  ·simp [ZiI]
attribute [local irreducible] W RL Does Zay Zam retQ Calls Pu Stp RD Qy Ay Zan RLI WI Pre
theorem MnOk.wk {a : Zai} (m : MnOk a) {z : ZaY} (hz : z ∈ a.zones) : WkOk a z := by
 refine ⟨fun e he => ?_, fun e he => (m.lc z hz e he).o⟩
 unfold ruEr
 split
 ·rename_i h2
  exact (m.lc z hz e he).r h2
 ·exact ⟨by decide, (fun r hr => by cases hr), (fun r hr => by cases hr), (fun r hr => by cases hr)⟩
theorem MnOk.nxAt {a : Zai} (m : MnOk a) {z : ZaY} (hz : z ∈ a.zones) {r : List ZaI} (hr : ZfB a.rules z.eras = some r) {t : Int} (h0 : -1000000000000000000 <= t) (h1 : t <= 1000000000000000000) {o : Option Int} (hv : evtD (ruEr a.rules (eAt a.rules z.eras t)) (eAt a.rules z.eras t).off t = some o) (hl : ∀ u, o = some u -> t < u) : NxAt a.rules z.eras r t := by
 obtain ⟨x, a1, a2, a3, a4, a5, a6⟩ := ZeI hr (m.ne z hz) (t := t) (by omega) (by omega)
 obtain ⟨e, he, hd⟩ := Ze1 (d := dE0) a1
 have hem := List.mem_of_getElem? he
 have hE : eAt a.rules z.eras t = e := hd
 rw [hE] at hv
 have e1 : nxD a.rules z.eras t = Zdt x.fin o := by
  unfold nxD Ze4
  rw [hE, hr, hv]
  dsimp only
  rw [a3]
  rfl
 refine ⟨_, x, e, o, a3, a4, he, (m.wk hz).rs e hem, (m.wk hz).of e hem, ⟨h0, h1⟩, hv, e1, fun u hu => ?_⟩
 rw [e1] at hu
 exact Zv2 a6 hl hu
theorem MnOk.lcAt {a : Zai} (m : MnOk a) {z : ZaY} (hz : z ∈ a.zones) {r : List ZaI} (hr : ZfB a.rules z.eras = some r) {t : Int} (h0 : -1000000000000000000 <= t) (h1 : t <= 1000000000000000000) : LcAt a.rules z.eras r t := by
 obtain ⟨x, a1, a2, a3, a4, a5, a6⟩ := ZeI hr (m.ne z hz) (t := t) (by omega) (by omega)
 obtain ⟨e, he, hd⟩ := Ze1 (d := dE0) a1
 have hem := List.mem_of_getElem? he
 obtain ⟨s1, s2, s3⟩ := m.st z hz e hem t
 exact ⟨_, x, e, a3, a4, he, m.lc z hz e hem, ⟨h0, h1⟩, s1, s2, s3, ZiX he rfl⟩
theorem Zmm {a : Zai} (m : MnOk a) {name : ByteArray} {i : Nat} (hz : ZbI a name = (((i : Nat) : Int), 0)) : ZaK a (a.links.length + 1) [] name = (i, 0) := by
 unfold ZbI at hz
 rw [m.acc] at hz
 dsimp only at hz
 have q1 := congrArg Prod.fst hz
 have q2 := congrArg Prod.snd hz
 dsimp only at q1 q2
 exact Prod.ext (by dsimp only; omega) q2
section
variable (Ar Az Al As : Option Addr) (cr cz cl cs : Nat) (s : Zai) (name : ByteArray) (w : World) (h : ZcO w Ar Az Al As cr cz cl cs s) (hn : s.zones.length + s.links.length <= 1000000) (m : MnOk s) {i : Nat} {z : ZaY} (hz : ZbI s name = (((i : Nat) : Int), 0)) (hi : s.zones[i]? = some z)
include h hn m hz hi
theorem Zuv (a b : Int) (G : Int -> Prop) (hGa : G a) (hGs : ∀ t u, G t -> t < u -> nxD s.rules z.eras t = some u -> u <= b -> G u) (hGb : ∀ t, G t -> -1000000000000000000 <= t /\ t <= 1000000000000000000) (hGv : ∀ t, G t -> ∃ o, evtD (ruEr s.rules (eAt s.rules z.eras t)) (eAt s.rules z.eras t).off t = some o /\ ∀ u, o = some u -> t < u) (ha : tOk a = true) (hb : tOk b = true) {out : List (Int × Nat)} {ty : List Zaf} (hres : allD s.rules z.eras a b = some (out, ty)) :
  Does Tryz.prog 10 [srcV Ar Az Al As cr cz cl cs s, .string name, .int .i64 a, .int .i64 b] w (alO out ty) := by
 have hmem := List.mem_of_getElem? hi
 obtain ⟨hnz, _⟩ := h.A.z i _ hi
 obtain ⟨r, hr⟩ := m.sp z hmem
 have hfol := Zmm m hz
 have hN : ∀ t, G t -> NxAt s.rules z.eras r t := fun t hg => by
  obtain ⟨o, o1, o2⟩ := hGv t hg
  exact m.nxAt hmem hr (hGb t hg).1 (hGb t hg).2 o1 o2
 refine ZwL Ar Az Al As cr cz cl cs s name a b i z r out ty G w h hn m.acc ha hb hfol hi hr
  (fun Ae ce w' hw hc hE => Znr Ar Az Al As cr cz cl cs s name i z r Ae ce w' (h.up hw) m.acc hn hfol hi hnz hc hE (m.un z hmem) hr)
  hGa (fun t u hg hu hub => ?_) hN (fun t hg => m.lcAt hmem hr (hGb t hg).1 (hGb t hg).2) hres
 obtain ⟨_, _, _, _, _, _, _, _, _, _, _, _, h9⟩ := hN t hg
 exact hGs t u hg (h9 u hu) hu hub
variable {Y : Nat -> Int} (hY : ZaJ s.rules z.eras Y)
include hY
theorem ZiP (t : Int) (ht : tOk t = true) : Does Tryz.prog 14 [srcV Ar Az Al As cr cz cl cs s, .string name, .int .i64 t] w (fun v O => v = .tuple #[.int .i64 ((nxD s.rules z.eras t).getD 0), .bool (nxD s.rules z.eras t).isSome, .int .i64 0] /\ O = []) := by
 have h2 := ZaP.1 ht
 obtain ⟨o, b1, _⟩ := hY.evt_wide (t := t) (by omega) (by omega)
 exact ZmP Ar Az Al As cr cz cl cs s name t i z o w h hn m ht hz hi (m.wk (List.mem_of_getElem? hi)) b1
theorem Zeq (a b : Int) (ha : tOk a = true) (hb : tOk b = true) {out : List (Int × Nat)} {ty : List Zaf} (hres : allD s.rules z.eras a b = some (out, ty)) :
  Does Tryz.prog 10 [srcV Ar Az Al As cr cz cl cs s, .string name, .int .i64 a, .int .i64 b] w (alO out ty) := by
 have h1 := ZaP.1 ha
 have h2 := ZaP.1 hb
 exact Zuv Ar Az Al As cr cz cl cs s name w h hn m hz hi a b (fun t => t = a \/ (a <= t /\ t <= b)) (.inl rfl) (fun t u hg htu hu hub => .inr ⟨by omega, hub⟩) (fun t hg => by omega) (fun t hg => hY.evt_wide (t := t) (by omega) (by omega)) ha hb hres
end
end Go.Proofs.YtpcpmndldgejiaaGreatDoor
namespace Go.Proofs.YtpcpmndldgejiaaGreatDoor
open Go Go.RowKit Go.Wk
attribute [local irreducible] W RL Does Zay Zam retQ Calls Pu Stp RD Qy Ay
attribute [local irreducible] Zan
end Go.Proofs.YtpcpmndldgejiaaGreatDoor
