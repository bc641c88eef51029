/- Parts of the proof. -/
import Derived.Test.YtbjomhdhkpgbaaaGreatDoorV14
import Derived.Test.YtbjomhdhkpgbaaaGreatDoorV10
import Derived.Test.YtbjomhdhkpgbaaaGreatDoorV13
import Derived.Test.YtbjomhdhkpgbaaaGreatDoorV06
set_option maxHeartbeats 4000000
set_option linter.unusedVariables false
set_option linter.unusedSimpArgs false
namespace Go.Wk
open Go Go.RowKit
theorem ZdW {P:Program}{n:Nat}{wr:World}{x y:Code}{Q2:Exit->Act->World->Prop}{fr:Fr}{O:List It}(I:Fr->List It->Prop)(h:W P n wr x (fun e fr O=>e = .normal/\I fr O) fr O)(k:∀ a w fr' O',St n wr fr' O' a w->I fr' O'->y.wp P Q2 a w) :
  ∀ a w,St n wr fr O a w->(Code.seq x y).wp P Q2 a w:=by
 intro a w hs
 refine wp_seq (wp_mono (h a w hs) ?_)
 rintro e a' w' ⟨fr',O',hs',rfl,hi⟩
 exact k a' w' fr' O' hs' hi
theorem St.sub {n:Nat}{wr:World}{fr fr':Fr}{O O':List It}{a:Act}{w:World}(h:St n wr fr O a w)(hf:Sub fr' fr)(hO:SubO O' O):St n wr fr' O' a w:=⟨h.sim.sub hf,h.old,h.own.sub hO⟩
end Go.Wk
namespace Go.Proofs.YtbjomhdhkpgbaaaGreatDoor
open Go Go.RowKit Go.Wk
attribute [local irreducible] W RL Does Zar Zal retQ Calls Pu Stp RD Qy Ay Zak RLI WI
def Asks (l b1 b2 b3:Nat)(ok:List UInt8->Bool)(OC OF:List It)(wr:World):Prop :=
 ∀ x rest:ByteArray,(x.size:Int)<=9223372036854775807->Zcd Tryz.prog l (.string x) wr (itO b1 b2 b3 rest ⟨#[47]⟩++OC) fun b O'=>b=ok x.data.toList/\(b=true->SubO (itO b1 b2 b3 rest ⟨#[47]⟩++OC) O')/\(b=false->SubO OF O')
theorem Zr8 {G:Prop}(h:G:=by(apply Pu_loadB1;rfl;(focus repeat' constructor);rfl)):G:=h
theorem ZmY (l b1 b2 b3:Nat)(ok:List UInt8->Bool)(OC OF:List It)(wr:World)(hY:Asks l b1 b2 b3 ok OC OF wr)(s:ByteArray)(hs:(s.size:Int)<=9223372036854775807) :
  Zak Tryz.prog 242 [.func (.yield l) #[] #[],.pointer (some ⟨b2,0,none⟩),.pointer (some ⟨b1,0,none⟩),.pointer (some ⟨b3,0,none⟩)] wr (itO b1 b2 b3 s ⟨#[47]⟩++OC)
   (fun v O'=>v = .tuple #[]/\((Zg1 s.data.toList []).all ok=true->SubO OC O')/\((Zg1 s.data.toList []).all ok=false->SubO OF O')):=by
 obtain⟨res,hres⟩:∃ res,(Zg1 s.data.toList []).all ok=res:=⟨_,rfl⟩
 rw[hres]
 have hix:=fun(t:ByteArray) w'=>ZpK t 47 w'
 unfold itO at *
 simp only[List.cons_append,List.nil_append]at *
 refine ZaD Tryz.func242 rfl rfl rfl rfl ?_
 repeat (first|refine walk ?_)
 refine Zaq [(0,.func (.yield l) #[] #[]),(1,.pointer (some ⟨b2,0,none⟩)),(2,.pointer (some ⟨b1,0,none⟩)),(3,.pointer (some ⟨b3,0,none⟩))] [] (fun _:ByteArray=>[]) (fun g => .blk b1 [.string g] 9 :: .blk b2 [.string ⟨#[47]⟩] 9 :: .blk b3 [.int .i64 0] 3::OC)
  (fun g=>(g.size:Int)<=9223372036854775807/\(Zg1 g.data.toList []).all ok=res) (fun g=>g.size) s SFA ?_ ⟨hs,hres⟩ ?_
 ·rw[List.append_nil];exact .refl _
 rintro g ⟨hg,hi⟩
 rw[List.append_nil]
 have hfi:=ZnS g
 rw[ZjM]at hi
 cases hc:cutI g.data.toList with
 | none =>
  rw[hc]at hfi hi
  dsimp only at hfi hi
  have hix2:=hix g
  rw[hfi]at hix2
  have hsY:=hg
  repeat (first|(apply Zg9;rfl;rfl;rfl;(intro c h;cases h);rfl;(first|(apply Pu_loadB1;rfl;(focus repeat' constructor);rfl)|(apply Pu_move;rfl));rfl;rfl;exact hY _ _ hsY;rintro b O' ⟨rfl,hb2,hb3⟩)|(apply RL_pu;rfl;exact Zr8)|(refine js ?_;(refine Zae (fun w' _=>hix2 w') ?_))|refine walk1 ?_)
  refine Za0 ?_
  rw[List.nil_append,List.all_cons,List.all_nil,Bool.and_true]at hi
  refine ZgI O' (.refl _) ⟨rfl,fun h=>?_,fun h=>hb3 (by rw[hi];exact h)⟩
  exact(SubO.trans (SubO.right (itO b1 b2 b3 g ⟨#[47]⟩) OC) (hb2 (by rw[hi];exact h)))
 | some i =>
  rw[hc]at hfi hi
  dsimp only at hfi hi
  have hix2:=hix g
  rw[hfi]at hix2
  have hlt:=ZBi hc
  have hsz:g.size=g.data.toList.length:=rfl
  have hx0:(g.extract 0 i).data.toList=g.data.toList.take i:=by rw[ByteArray.data_extract];simp
  have hx1:(g.extract (i+1) g.size).data.toList=g.data.toList.drop (i+1):=by
   rw[ByteArray.data_extract]
   simp only[Array.toList_extract,List.extract_eq_take_drop]
   exact List.take_of_length_le (by rw[List.length_drop];omega)
  have hi0:(0:Int)<=(i:Int):=Int.natCast_nonneg i
  have hi1:(i:Int)<(g.data.toList.length:Int):=Int.ofNat_lt.2 hlt
  have hsY:((g.extract 0 i).size:Int)<=9223372036854775807:=by rw[ByteArray.size_extract];omega
  repeat (first|(apply Zg9;rfl;rfl;rfl;(intro c h;cases h);rfl;(first|(apply Pu_loadB1;rfl;(focus repeat' constructor);rfl)|(apply Pu_move;rfl));rfl;rfl;exact hY _ _ hsY;rintro b O' ⟨rfl,hb2,hb3⟩)|(apply RL_pu;rfl;(apply Zlo;rfl;rfl;omega;omega))|(refine js ?_;(refine Zae (fun w' _=>hix2 w') ?_))|refine walk1 ?_)
  rw[List.nil_append,List.all_cons]at hi
  have hx2:(g.extract 0 (Int.toNat ((i:Int)+0))).data.toList=g.data.toList.take i:=by rw[Int.add_zero];exact hx0
  rw[hx2]at hb2 hb3
  apply Za9 (.inl rfl);rfl;(intro c h;cases h);(apply Pu_not;rfl)
  refine Za0 ?_
  apply thenQ_n
  rw[hx2]
  refine Zah rfl (fun h=>?_) (fun h=>?_)
  ·simp only[Bool.not_eq_true']at h
   rw[h,Bool.false_and]at hi
   subst hi
   repeat (first|refine walk ?_)
   exact Zuz O' (.refl _) ⟨rfl,fun h2=>(by cases h2),fun _=>hb3 h⟩
  ·simp only[Bool.not_eq_false']at h
   rw[h,Bool.true_and]at hi
   have hlen:(((⟨#[47]⟩:ByteArray).size:Nat):Int)=1:=rfl
   have htn:((i:Int)+(((⟨#[47]⟩:ByteArray).size:Nat):Int)).toNat=i+1:=by rw[hlen];omega
   refine ZcH (fr':=[(7,.int .i64 i),(0,.func (.yield l) #[] #[]),(1,.pointer (some ⟨b2,0,none⟩)),(2,.pointer (some ⟨b1,0,none⟩)),(3,.pointer (some ⟨b3,0,none⟩))]) (O' := .blk b1 [.string g] 9 :: .blk b2 [.string ⟨#[47]⟩] 9 :: .blk b3 [.int .i64 0] 3::OC) SFA (hb2 h) ?_
   repeat (first|(apply RL_pu;rfl;(apply ZtA;rfl;rfl;omega;omega))|refine walk1 ?_)
   refine⟨g.extract ((i:Int)+(((⟨#[47]⟩:ByteArray).size:Nat):Int)).toNat g.size,?_,⟨?_,?_⟩,SFA,?_⟩
   ·rw[htn,ByteArray.size_extract];omega
   ·rw[htn,ByteArray.size_extract];omega
   ·rw[htn,hx1];exact hi
   ·rw[List.append_nil];exact .refl _
def okP (s:ByteArray)(l:List UInt8):Bool:=decide (s.size<=60)&&Zx6 l
theorem ZAW (s:ByteArray):(Zg1 s.data.toList []).all (okP s)=Zig s:=by
 have hne:Zg1 s.data.toList []≠[]:=by
  rw[ZjM];split <;> simp
 unfold Zig okP
 by_cases h:s.size<=60
 ·simp[h]
 ·cases hc:Zg1 s.data.toList [] with
  | nil=>exact absurd hc hne
  | cons x l=>simp[h]
theorem Zx5 (l:List UInt8):Zx6 l=(Zdx 1 14 31 l&&!(match l with|c::_=>decide (c=46)||decide (c=45)|[]=>false)):=rfl
def ZC8 (s:ByteArray)(w:World):Ending->World->Prop:=fun e w'=>∃ v O,e = .returned v/\Bel w.heap.size w w'/\Zau w.heap.size O w'/\v = .bool (Zig s)/\O=[]
theorem Zil {n:Nat}{wr:World}{fr:Fr}{O:List It}{a:Act}{w:World}{D:Nat}(hs:St n wr fr (ZbC D::O) a w):St n wr fr O a (w.putObj D (.deferred none)):=by
 have hin:=hs.own.inb _ List.mem_cons_self D rfl
 refine⟨hs.sim,hs.old.trans ⟨⟨rfl,rfl,rfl,by rw[Zet];exact Nat.le_refl _,fun i hi=>World.putObj_heap_other (by omega)⟩⟩,hs.own.tail.congr (by rw[Zet];exact Nat.le_refl _) fun b ⟨i,hi,hb⟩=>World.putObj_heap_other fun e=>?_⟩
 exact(List.pairwise_cons.1 hs.own.sep).1 i hi D rfl (e▸hb)
theorem Zks (s:ByteArray)(w:World){fr:Fr}{O R:List It}{a:Act}{w':World}{D br:Nat}{b:Bool}(hs:St 28 w fr (ZbC D::O) a w')(h2:Wk.look fr 2=some (.pointer (some ⟨br,0,none⟩)))(hp:Pick (.blk br [.bool b] 4) O R)(hb:b=Zig s) :
  bodyPostM Fence.wide 0 Tryz.prog Tryz.f129 (ZC8 s w) .ret (actD (ZdX D) a) w':=by
 have hK:=ZbC.at (hs.own.sat _ List.mem_cons_self)
 have hs2:=Zil hs
 refine⟨by simp,.inl ⟨_,_,rfl,run_takeDeferred hK,?_⟩⟩
 refine⟨.bool b,?_,_,[],rfl,hs2.old,Zau.nil _ _,by rw[hb],rfl⟩
 have hc:(w'.putObj D (.deferred none)).cell? ⟨br,0,none⟩=some (.bool b):=by
  rw[ZcQ (hs2.own.of hp)];rfl
 have hres:Tryz.f129.results=[ResultVar.cell 2 4].toArray:=rfl
 show(results Tryz.f129 a.tmps).run Tryz.prog _=_
 unfold results
 rw[hres,List.mapM_toArray]
 simp only[Sem.run_bind,Sem.run_map]
 rw[ZbT (P:=Tryz.prog) hs2 _ (fun _=>rfl) (fun _ _=>rfl) [ResultVar.cell 2 4] [.bool b] ⟨_,[],rfl,⟨_,h2,fun w3 hB hH=>?_⟩,rfl⟩]
 ·simp only[Result.andThen_ok,Sem.run_pure]
  rfl
 ·rw[Zdt]
  rw[ZcQ (hH.of hp)];rfl
instance : ZeroT Tryz.prog 146 [.nilFunc]:=⟨by kernel_rfl⟩
theorem ZmF (s:ByteArray)(hs:(s.size:Int)<=9223372036854775807)(w:World):Does Tryz.prog 129 [.string s] w (fun v O=>v = .bool (Zig s)/\O=[]):=by
 unfold Does
 refine Zlr Tryz.func129 rfl rfl rfl ?_
 intro a0 hst
 -- Zaa Tryz.func129
 refine ZdW (fun fr' O'=>∃ bs br,Sub [(1,.pointer (some ⟨bs,0,none⟩)),(2,.pointer (some ⟨br,0,none⟩))] fr'/\SubO [.blk bs [.string s] 9,.blk br [.bool false] 4] O') ?_ ?_ a0 w hst
 ·apply W_region
  apply RL_st;rfl;(apply Stp_boxNf;rfl;(focus repeat' constructor);intro bs)
  apply RL_st;rfl;(apply Stp_alloc;intro br)
  apply RL_nil
  exact⟨rfl,bs,br,SFA,SOA⟩
 rintro a1 w1 fr1 O1 hs0 ⟨bs,br,hf1,hO1⟩
 have hs1:=hs0.sub hf1 hO1
 clear hf1 hO1 hs0 hst a0 fr1 O1
 refine ZdW (fun fr' O'=>∃ bf b1 b2 b3 b4,Sub [(1,.pointer (some ⟨bs,0,none⟩)),(2,.pointer (some ⟨br,0,none⟩)),(3,.pointer (some ⟨bf,0,none⟩))] fr'/\SubO (.blk bs [.string s] 9 :: .blk br [.bool false] 4 :: .blk bf [ofV b1 b2 b3 b4] 146::ofO 1 14 31 b1 b2 b3 b4) O') ?_ ?_ a1 w1 hs1
 ·repeat (first|(refine js ?_;(first|(apply Zad (h:=fun w' _ _=>ZgK 1 14 31 w');rfl;rintro v O' ⟨b1,b2,b3,b4,rfl,rfl⟩)|(refine bx ?_;intro bk)))|refine walk ?_)
  exact⟨rfl,_,b1,b2,b3,b4,SFA,SOA⟩
 rintro a2 w2 fr2 O2 hs0 ⟨bf,b1,b2,b3,b4,hf2,hO2⟩
 have hs2:=hs0.sub hf2 hO2
 clear hf2 hO2 hs0 hs1 a1 w1 fr2 O2
 refine wp_seq ?_
 refine ZdW (fun fr' O'=>∃ c1 c2 c3,Sub [(1,.pointer (some ⟨bs,0,none⟩)),(2,.pointer (some ⟨br,0,none⟩)),(3,.pointer (some ⟨bf,0,none⟩)),(7,itV c1 c2 c3)] fr'/\SubO (itO c1 c2 c3 s ⟨#[47]⟩++(.blk bs [.string s] 9 :: .blk br [.bool false] 4 :: .blk bf [ofV b1 b2 b3 b4] 146::ofO 1 14 31 b1 b2 b3 b4)) O') ?_ ?_ a2 w2 hs2
 ·repeat (first|(apply RL_pu;rfl;exact Zr8)|(refine js ?_;(first|(apply Zad (h:=fun w' _ _=>Zmj s ⟨#[47]⟩ w');rfl;rintro v O' ⟨c1,c2,c3,rfl,rfl⟩)|(refine bx ?_;intro bk)))|refine walk1 ?_)
  exact⟨rfl,c1,c2,c3,SFA,.refl _⟩
 rintro a3 w3 fr3 O3 hs0 ⟨c1,c2,c3,hf3,hO3⟩
 have hs3:=hs0.sub hf3 hO3
 clear hf3 hO3 hs0 hs2 a2 w2 fr3 O3
 refine wp_block ?_
 refine Zim (gf:=242) (lb:=[.pointer (some ⟨c2,0,none⟩),.pointer (some ⟨c1,0,none⟩),.pointer (some ⟨c3,0,none⟩)]) (fun jump O2=>SubO [.blk br [.bool false] 4] O2/\((jump=none/\Zig s=true)\/(jump=some .ret/\Zig s=false))) hs3 rfl ?_ ?_
 ·intro fn l D
  generalize hr:ZfW fn a3.tmps 8 _ _ D=r
  have hit:=ZmY l c1 c2 c3 (okP s) (Za1 l r::ZbC D :: .blk bs [.string s] 9 :: .blk br [.bool false] 4 :: .blk bf [ofV b1 b2 b3 b4] 146::ofO 1 14 31 b1 b2 b3 b4) (Za1 l { r with state := .done,pending:=some .ret }::ZbC D::[.blk br [.bool false] 4]) w ?_ s hs
  ·refine hit.sub (by unfold itO ofO;exact SOA) fun v O' ⟨_,h1,h2⟩=>?_
   rw[ZAW]at h1 h2
   cases hz:Zig s with
   | true=>exact⟨none,_,.ready,SubO.trans (by rw[<- hr];exact .refl _) (h1 hz),by decide,SOA,.inl ⟨rfl,rfl⟩⟩
   | false=>exact⟨some .ret,_,.done,h2 hz,by decide,.refl _,.inr ⟨rfl,rfl⟩⟩
  ·intro x rest hx
   refine Ze3 (r:=r) (p:=8) (fr:=[(1,.pointer (some ⟨bs,0,none⟩)),(2,.pointer (some ⟨br,0,none⟩)),(3,.pointer (some ⟨bf,0,none⟩)),(7,itV c1 c2 c3)]) (a0:=a3) (O1:=itO c1 c2 c3 rest ⟨#[47]⟩++(Za1 l { r with state := .busy }::ZbC D :: .blk bs [.string s] 9 :: .blk br [.bool false] 4 :: .blk bf [ofV b1 b2 b3 b4] 146::ofO 1 14 31 b1 b2 b3 b4)) (by rw[<- hr];rfl) (by rw[<- hr];rfl) (by rw[<- hr];rfl) hs3.sim rfl (by unfold itO;exact(by repeat' constructor)) (by rw[<- hr];rfl) ?_
   apply Za9 (Or.inr ⟨_,rfl⟩);rfl;(intro c h;cases h);(apply Pu_assign;rfl)
   refine Za0 ⟨rfl,?_⟩
   have hbody:∀ Q fr O,(∀ b:Code,b=r.body->WI (Fence.wide.inRound l) [] Tryz.prog 28 w b Q fr O)->WI (Fence.wide.inRound l) [] Tryz.prog 28 w r.body Q fr O:=fun Q fr O h=>h _ rfl
   refine hbody _ _ _ fun b hb=>?_
   rw[<- hr]at hb
   dsimp only[ZfW]at hb
   subst hb
   unfold itO ofO
   simp only[List.cons_append,List.nil_append]
   refine Zdk (ZbP (Zbb ?_))
   have hsx:(s.size:Int)<=9223372036854775807:=hs
   by_cases hlong:(60:Int)<(s.size:Int)
   ·have h60:decide ((60:Int)<(s.size:Int))=true:=decide_eq_true hlong
    have hbad:false=okP s x.data.toList:=by
     unfold okP;rw[decide_eq_false (by omega),Bool.false_and]
    repeat (first|(apply Za9 (Or.inr ⟨_,rfl⟩);rfl;(intro c h;cases h);(first|(apply Pu_loadB1;rfl;(focus repeat' constructor);rfl)|(apply Pu_lenS;rfl)|(apply Za3;rfl;rfl;exact h60)|(apply Pu_move;rfl)|(apply Pu_not;rfl)|(apply Pu_pickT;rfl;rfl)|(apply Pu_pickF;rfl;rfl)))|(refine Zj4 rfl rfl rfl ?_)|(refine Zos (Or.inr ⟨_,rfl⟩) rfl rfl rfl rfl rfl ?_)|(refine Za0 ?_))
    refine thenQ_n ?_
    refine ZbW rfl (fun _=>?_) (fun h=>by cases h)
    refine ZbP (Zbb ?_)
    apply ZbH (Or.inr ⟨_,rfl⟩);(intro d hd;cases hd);(intro c h;cases h);(intro a w hs;exact Zdq a w)
    (apply Stp_storeNf;rfl;rfl;(focus repeat' constructor);(focus repeat (first|exact Nf.nil|apply Nf.cons));rfl;rfl;rfl;(focus repeat' constructor))
    refine Za0 ?_
    refine thenQ_n ?_
    refine Zgd ?_
    refine blockQ_r ?_
    exact⟨_,(by repeat' constructor),hbad,fun h=>(by cases h),fun _=>SOA⟩
   have h60:decide ((60:Int)<(s.size:Int))=false:=decide_eq_false hlong
   have hok:okP s x.data.toList=Zx6 x.data.toList:=by
    unfold okP;rw[decide_eq_true (by omega),Bool.true_and]
   have hoc:=fun{base:Nat} {O:List It} {w':World} (hH:Zau base O w') (hO:SubO (ofO 1 14 31 b1 b2 b3 b4) O)=>ZlO (a:=1) (b:=14) (m:=31) hx (by decide) hH hO
   rw[hok,Zx5]
   cases hn:Zdx 1 14 31 x.data.toList with
   | false =>
    rw[hn]at hoc
    have hbad:false=(false&&!(match x.data.toList with|c::_=>decide (c=46)||decide (c=45)|[]=>false)):=rfl
    repeat (first|(apply Za9 (Or.inr ⟨_,rfl⟩);rfl;(intro c h;cases h);(first|(apply Pu_loadB1;rfl;(focus repeat' constructor);rfl)|(apply Pu_lenS;rfl)|(apply Za3;rfl;rfl;exact h60)|(apply Pu_move;rfl)|(apply Pu_not;rfl)|(apply Pu_pickT;rfl;rfl)|(apply Pu_pickF;rfl;rfl)))|(refine Zj4 rfl rfl rfl ?_)|(refine Zos (Or.inr ⟨_,rfl⟩) rfl rfl rfl rfl rfl ?_)|(apply ZbH (Or.inr ⟨_,rfl⟩);(intro d hd;cases hd;rfl);(intro c h;cases h);(intro a w hs;exact Zcj (f:=168) (us:=[]) (cs:=[.pointer (some ⟨b1,0,none⟩),.pointer (some ⟨b2,0,none⟩),.pointer (some ⟨b3,0,none⟩),.pointer (some ⟨b4,0,none⟩)]) hs rfl);(apply Zap (f:=168) (us:=[]) (vs:=[.string x]) (cs:=[.pointer (some ⟨b1,0,none⟩),.pointer (some ⟨b2,0,none⟩),.pointer (some ⟨b3,0,none⟩),.pointer (some ⟨b4,0,none⟩)]) (h:=fun w' _ hH=>hoc hH (by unfold ofO;exact SOA));rfl;rfl;rintro v O' ⟨rfl,rfl⟩))|(refine Za0 ?_))
    refine thenQ_n ?_
    refine ZbW rfl (fun _=>?_) (fun h=>by cases h)
    refine ZbP (Zbb ?_)
    apply ZbH (Or.inr ⟨_,rfl⟩);(intro d hd;cases hd);(intro c h;cases h);(intro a w hs;exact Zdq a w)
    (apply Stp_storeNf;rfl;rfl;(focus repeat' constructor);(focus repeat (first|exact Nf.nil|apply Nf.cons));rfl;rfl;rfl;(focus repeat' constructor))
    refine Za0 ?_
    refine thenQ_n ?_
    refine Zgd ?_
    refine blockQ_r ?_
    exact⟨_,(by repeat' constructor),hbad,fun h=>(by cases h),fun _=>SOA⟩
   | true =>
    rw[hn]at hoc
    have hsz:=(ZkP hn).1
    have hxz:(0:Int)<(x.size:Int):=by omega
    cases hxl:x.data.toList with
    | nil =>
     exfalso
     have h0:x.size=0:=by
      have:x.size=x.data.toList.length:=rfl
      rw[this,hxl];rfl
     omega
    | cons c tl =>
    have hxc:x.data.toList.getD (Int.toNat 0) 0=c:=by rw[hxl];rfl
    dsimp only
    by_cases h46:c=46
    ·subst h46
     have e46:decide (((46:UInt8).toNat:Int)=46)=true:=by decide
     have e45:=e46
     have hbad:false=(true&&!(decide ((46:UInt8)=46)||decide ((46:UInt8)=45))):=by decide
     repeat (first|(apply Za9 (Or.inr ⟨_,rfl⟩);rfl;(intro c h;cases h);(first|(apply Pu_loadB1;rfl;(focus repeat' constructor);rfl)|(apply Pu_lenS;rfl)|(apply Za3;rfl;rfl;exact h60)|(apply Pu_move;rfl)|(apply Pu_not;rfl)|(apply Pu_pickT;rfl;rfl)|(apply Pu_pickF;rfl;rfl)|(apply Zhf;rfl;rfl;decide;exact hxz;exact hxc)|(apply ZaA;rfl;rfl;first|exact e46|exact e45)))|(refine Zj4 rfl rfl rfl ?_)|(refine Zos (Or.inr ⟨_,rfl⟩) rfl rfl rfl rfl rfl ?_)|(apply ZbH (Or.inr ⟨_,rfl⟩);(intro d hd;cases hd;rfl);(intro c h;cases h);(intro a w hs;exact Zcj (f:=168) (us:=[]) (cs:=[.pointer (some ⟨b1,0,none⟩),.pointer (some ⟨b2,0,none⟩),.pointer (some ⟨b3,0,none⟩),.pointer (some ⟨b4,0,none⟩)]) hs rfl);(apply Zap (f:=168) (us:=[]) (vs:=[.string x]) (cs:=[.pointer (some ⟨b1,0,none⟩),.pointer (some ⟨b2,0,none⟩),.pointer (some ⟨b3,0,none⟩),.pointer (some ⟨b4,0,none⟩)]) (h:=fun w' _ hH=>hoc hH (by unfold ofO;exact SOA));rfl;rfl;rintro v O' ⟨rfl,rfl⟩))|(refine Za0 ?_))
     refine thenQ_n ?_
     refine ZbW rfl (fun _=>?_) (fun h=>by cases h)
     refine ZbP (Zbb ?_)
     apply ZbH (Or.inr ⟨_,rfl⟩);(intro d hd;cases hd);(intro c h;cases h);(intro a w hs;exact Zdq a w)
     (apply Stp_storeNf;rfl;rfl;(focus repeat' constructor);(focus repeat (first|exact Nf.nil|apply Nf.cons));rfl;rfl;rfl;(focus repeat' constructor))
     refine Za0 ?_
     refine thenQ_n ?_
     refine Zgd ?_
     refine blockQ_r ?_
     exact⟨_,(by repeat' constructor),hbad,fun h=>(by cases h),fun _=>SOA⟩
    have hne46:(c.toNat:Int)≠46:=fun e=>h46 (UInt8.toNat_inj.1 (by show c.toNat=46;omega))
    by_cases h45:c=45
    ·subst h45
     have e46:decide (((45:UInt8).toNat:Int)=46)=false:=by decide
     have e45:decide (((45:UInt8).toNat:Int)=45)=true:=by decide
     have hbad:false=(true&&!(decide ((45:UInt8)=46)||decide ((45:UInt8)=45))):=by decide
     repeat (first|(apply Za9 (Or.inr ⟨_,rfl⟩);rfl;(intro c h;cases h);(first|(apply Pu_loadB1;rfl;(focus repeat' constructor);rfl)|(apply Pu_lenS;rfl)|(apply Za3;rfl;rfl;exact h60)|(apply Pu_move;rfl)|(apply Pu_not;rfl)|(apply Pu_pickT;rfl;rfl)|(apply Pu_pickF;rfl;rfl)|(apply Zhf;rfl;rfl;decide;exact hxz;exact hxc)|(apply ZaA;rfl;rfl;first|exact e46|exact e45)))|(refine Zj4 rfl rfl rfl ?_)|(refine Zos (Or.inr ⟨_,rfl⟩) rfl rfl rfl rfl rfl ?_)|(apply ZbH (Or.inr ⟨_,rfl⟩);(intro d hd;cases hd;rfl);(intro c h;cases h);(intro a w hs;exact Zcj (f:=168) (us:=[]) (cs:=[.pointer (some ⟨b1,0,none⟩),.pointer (some ⟨b2,0,none⟩),.pointer (some ⟨b3,0,none⟩),.pointer (some ⟨b4,0,none⟩)]) hs rfl);(apply Zap (f:=168) (us:=[]) (vs:=[.string x]) (cs:=[.pointer (some ⟨b1,0,none⟩),.pointer (some ⟨b2,0,none⟩),.pointer (some ⟨b3,0,none⟩),.pointer (some ⟨b4,0,none⟩)]) (h:=fun w' _ hH=>hoc hH (by unfold ofO;exact SOA));rfl;rfl;rintro v O' ⟨rfl,rfl⟩))|(refine Za0 ?_))
     refine thenQ_n ?_
     refine ZbW rfl (fun _=>?_) (fun h=>by cases h)
     refine ZbP (Zbb ?_)
     apply ZbH (Or.inr ⟨_,rfl⟩);(intro d hd;cases hd);(intro c h;cases h);(intro a w hs;exact Zdq a w)
     (apply Stp_storeNf;rfl;rfl;(focus repeat' constructor);(focus repeat (first|exact Nf.nil|apply Nf.cons));rfl;rfl;rfl;(focus repeat' constructor))
     refine Za0 ?_
     refine thenQ_n ?_
     refine Zgd ?_
     refine blockQ_r ?_
     exact⟨_,(by repeat' constructor),hbad,fun h=>(by cases h),fun _=>SOA⟩
    have hne45:(c.toNat:Int)≠45:=fun e=>h45 (UInt8.toNat_inj.1 (by show c.toNat=45;omega))
    have e46:decide ((c.toNat:Int)=46)=false:=decide_eq_false hne46
    have e45:decide ((c.toNat:Int)=45)=false:=decide_eq_false hne45
    have hgood:true=(true&&!(decide (c=46)||decide (c=45))):=by rw[decide_eq_false h46,decide_eq_false h45];rfl
    repeat (first|(apply Za9 (Or.inr ⟨_,rfl⟩);rfl;(intro c h;cases h);(first|(apply Pu_loadB1;rfl;(focus repeat' constructor);rfl)|(apply Pu_lenS;rfl)|(apply Za3;rfl;rfl;exact h60)|(apply Pu_move;rfl)|(apply Pu_not;rfl)|(apply Pu_pickT;rfl;rfl)|(apply Pu_pickF;rfl;rfl)|(apply Zhf;rfl;rfl;decide;exact hxz;exact hxc)|(apply ZaA;rfl;rfl;first|exact e46|exact e45)))|(refine Zj4 rfl rfl rfl ?_)|(refine Zos (Or.inr ⟨_,rfl⟩) rfl rfl rfl rfl rfl ?_)|(apply ZbH (Or.inr ⟨_,rfl⟩);(intro d hd;cases hd;rfl);(intro c h;cases h);(intro a w hs;exact Zcj (f:=168) (us:=[]) (cs:=[.pointer (some ⟨b1,0,none⟩),.pointer (some ⟨b2,0,none⟩),.pointer (some ⟨b3,0,none⟩),.pointer (some ⟨b4,0,none⟩)]) hs rfl);(apply Zap (f:=168) (us:=[]) (vs:=[.string x]) (cs:=[.pointer (some ⟨b1,0,none⟩),.pointer (some ⟨b2,0,none⟩),.pointer (some ⟨b3,0,none⟩),.pointer (some ⟨b4,0,none⟩)]) (h:=fun w' _ hH=>hoc hH (by unfold ofO;exact SOA));rfl;rfl;rintro v O' ⟨rfl,rfl⟩))|(refine Za0 ?_))
    refine thenQ_n ?_
    refine ZbW rfl (fun h=>by cases h) (fun _=>?_)
    refine Zfw ?_
    refine blockQ_n ?_
    exact⟨_,(by repeat' constructor),hgood,fun _=>SubO.trans (by rw[<- hr];exact .refl _) (.refl _),fun h=>(by cases h)⟩
 ·rintro jump O2 D w4 ⟨hsub,⟨rfl,hz⟩|⟨rfl,hz⟩⟩ hs4
  ·have hs5:St 28 w [(2,.pointer (some ⟨br,0,none⟩))] [ZbC D,.blk br [.bool false] 4] a3 w4:=hs4.sub SFA (.cons .here hsub)
   show(Code.seq _ _).wp _ _ _ _
   have key:∀ c Q' Q3,WI Fence.wide (ZdX D) Tryz.prog 28 w c Q' [(2,.pointer (some ⟨br,0,none⟩))] [ZbC D,.blk br [.bool false] 4]->(∀ e a' w',ZpD (ZdX D) 28 w Q' e a' w'->Q3 e a' w')->c.wp Tryz.prog Q3 (actD (ZdX D) a3) w4:=fun c Q' Q3 h hq=>(wpIn_wide (n:=0)).1 (wpIn_mono (h.at hs5) hq)
   refine key _ (fun e fr O=>e = .ret/\Sub [(2,.pointer (some ⟨br,0,none⟩))] fr/\SubO [ZbC D,.blk br [.bool true] 4] O) _ (ZbP (Zbb ?_)) ?_
   ·apply ZbH (.inl rfl);(intro d hd;cases hd);(intro c h;cases h);(intro a w hs;exact Zdq a w)
    (apply Stp_storeNf;rfl;rfl;(focus repeat' constructor);(focus repeat (first|exact Nf.nil|apply Nf.cons));rfl;rfl;rfl;(focus repeat' constructor))
    refine Za0 ?_
    refine thenQ_n ?_
    refine Zgd ?_
    exact⟨rfl,SFA,.refl _⟩
   ·rintro e a' w' ⟨hd,fr',O',hs',rfl,hf,hO⟩
    have h:=Zks s w (hs'.sub hf hO) rfl (.here) hz.symm
    rw[Zc3 hd]at h
    exact h
  ·have hs5:St 28 w [(2,.pointer (some ⟨br,0,none⟩))] [ZbC D,.blk br [.bool false] 4] a3 w4:=hs4.sub SFA (.cons .here hsub)
   refine wp_ret ?_
   exact Zks s w hs5 rfl .here hz.symm
end Go.Proofs.YtbjomhdhkpgbaaaGreatDoor
set_option maxHeartbeats 2000000
namespace Go.Wk
open Go Go.RowKit
theorem Zie {P:Program}{n:Nat}{f:FuncId}{fn:Func}{c:Code}{args:List Value}{wr w:World}{O:List It}{R:Ending->World->Prop}(hf:P.funcs[f]?=some fn)(hb:fn.body=some c)(hn:fn.ntmps=n)(ha:Nat.ble args.length n=true)
  (hB:Bel wr.heap.size wr w) (hH:Zau wr.heap.size O w) (h:∀ a,St n wr (ZeW 0 args) O a w->c.wp P (bodyPostM Fence.wide 0 P fn R) a w):Calls P f args.toArray w R:=by
 refine(callsIn_wide (n:=0)).1 (callsIn_of_wp_marks hf hb trivial ?_)
 refine(wpIn_wide (n:=0)).2 (h _ ?_)
 have ha':args.length<=n:=Nat.le_of_ble_eq_true ha
 refine⟨⟨rfl,by simp;omega,fun t v hv=>?_⟩,hB,hH⟩
 have:=(ZcD args 0 t v hv).2
 simp only[Nat.sub_zero]at this
 have hlt:t<args.length:=(List.getElem?_eq_some_iff.1 this).1
 rw[Array.getElem?_append_left (by simpa using hlt)]
 simpa using this
theorem ZjT {P:Program}{dst:Option Tmp}{t len:Nat}{ps:Array (Nat × Operand)}{ty:TypeId}{pos:String}{af:Array Edge}{g:Option (Nat × Bool)}(a:Act)(w:World):calm ((execOp a.eval ⟨dst,.buildSlice t len ps,ty,pos,af,g⟩).run P w):=by
 simp only[execOp,Sem.run_bind]
 generalize Sem.run P _ w=r
 cases r <;> simp[calm,Result.andThen]
theorem ZjU {P:Program}{dst:Option Tmp}{x y:Operand}{ts:Array TypeId}{ty:TypeId}{pos:String}{af:Array Edge}{g:Option (Nat × Bool)}(a:Act)(w:World):calm ((execOp a.eval ⟨dst,.call ⟨.builtin .append,#[x,y],ts⟩,ty,pos,af,g⟩).run P w):=by
 simp only[execOp,resolve,invoke,builtin,Sem.run_bind,Sem.run_pure,Result.andThen_ok]
 generalize Sem.run P _ w=r
 cases r <;> simp[calm,Result.andThen]
end Go.Wk
namespace Go.Proofs.YtbjomhdhkpgbaaaGreatDoor
open Go Go.RowKit Go.Wk
attribute [local irreducible] W RL Does Zar Zal retQ Calls Pu Stp RD Qy Ay Zak RLI WI
structure MKG (σ:Type) where
 left:List (ByteArray × Value)
 cur:Option (ByteArray × Value)
 done:List (ByteArray × Value)
 s:σ
theorem ZpH {σ:Type}(l bx b:Nat)(m:List (ByteArray × Value))(OC:σ->List It)(Inv:List (ByteArray × Value)->σ->Prop)(wr:World)(s0:σ)(h0:Inv [] s0)
  (hY:∀ d kv s (X Y:It),d.length<m.length->Inv d s->Zcd Tryz.prog l (.string kv.1) wr (X::Y::OC s) fun bb O'=>bb=true/\∃ s',Inv (d++[kv]) s'/\SubO (X::Y::OC s') O') :
  Zak Tryz.prog 75 [.func (.yield l) #[] #[],.pointer (some ⟨bx,0,none⟩)] wr (.blk bx [.map (some b)] 98 :: .mp b m::OC s0)
   (fun v O'=>v = .tuple #[]/\∃ d s',d.Perm m/\Inv d s'/\SubO (.blk bx [.map (some b)] 98 :: .mp b m::OC s') O'):=by
 refine ZaD Tryz.func75 rfl rfl rfl rfl ?_
 repeat (first|(refine js ?_;(apply Zon;rfl;(intro r;(focus repeat' constructor));intro r))|refine walk ?_)
 refine Zaq [(0,.func (.yield l) #[] #[]),(1,.pointer (some ⟨bx,0,none⟩)),(5,.pointer (some ⟨r,0,none⟩))] [] (fun _:MKG σ=>[]) (fun g => .blk bx [.map (some b)] 98::rng b r m g.left g.cur::OC g.s) (fun g=>(g.done++g.left).Perm m/\Inv g.done g.s) (fun g=>g.left.length) ⟨m,none,[],s0⟩ SFA ?_ ⟨List.Perm.refl _,h0⟩ ?_
 ·rw[List.append_nil];exact .refl _
 rintro⟨left,cur,dn,s⟩ ⟨hp,hi⟩
 dsimp only at hp hi ⊢
 rw[List.append_nil]
 apply W_seq
 apply W_region
 apply RL_st
 rfl
 refine ZrV (O':=fun l c => .blk bx [.map (some b)] 98::rng b r m l c::OC s) rfl (fun l c => .there .here) (fun h0=>?_) (fun A kv B hl=>?_)
 ·subst h0
  rw[List.append_nil]at hp
  refine ZrX (O' := .blk bx [.map (some b)] 98 :: .mp b m::OC s) (.there .here) ?_
  repeat (first|refine walk ?_)
  exact ZgI _ (.refl _) ⟨rfl,dn,s,hp,hi,.refl _⟩
 ·obtain⟨k,v⟩:=kv
  subst hl
  have hlt:dn.length<m.length:=by have:=hp.length_eq;simp at this;omega
  repeat (first|(apply Zg9;rfl;rfl;rfl;(intro c h;cases h);rfl;(apply Pu_move;rfl);rfl;rfl;exact hY dn (k,v) s (.blk bx [.map (some b)] 98) (rng b r m (A++B) (some (k,v))) hlt hi;rintro bb O' ⟨rfl,s',hi',hO'⟩)|(apply RL_pu;rfl;(apply Zr6;rfl;(focus repeat' constructor)))|refine walk1 ?_)
  apply Za9 (.inl rfl);rfl;(intro c h;cases h);(apply Pu_not;rfl)
  refine Za0 ?_
  apply thenQ_n
  refine Zah rfl (fun h=>(by cases h)) (fun h=>?_)
  refine ZcH (fr':=[(0,.func (.yield l) #[] #[]),(1,.pointer (some ⟨bx,0,none⟩)),(5,.pointer (some ⟨r,0,none⟩))]) (O' := .blk bx [.map (some b)] 98::rng b r m (A++B) (some (k,v))::OC s') SFA hO' ?_
  repeat (first|refine walk ?_)
  refine⟨⟨A++B,some (k,v),dn++[(k,v)],s'⟩,by simp,⟨?_,hi'⟩,SFA,?_⟩
  ·exact(show((dn++[(k,v)])++(A++B)).Perm m by rw[List.append_assoc];exact(List.Perm.append_left dn (List.perm_middle (a:=(k,v)) (l₁:=A) (l₂:=B)).symm).trans hp)
  ·rw[List.append_nil];exact .refl _
end Go.Proofs.YtbjomhdhkpgbaaaGreatDoor
set_option maxHeartbeats 4000000
namespace Go.Proofs.YtbjomhdhkpgbaaaGreatDoor
open Go Go.RowKit Go.Wk
attribute [local irreducible] W RL Does Zar Zal retQ Calls Pu Stp RD Qy Ay Zak RLI WI
theorem Ztr (a b:List UInt8):(⟨b.toArray⟩:ByteArray)++(⟨#[47]⟩:ByteArray)++(⟨a.toArray⟩:ByteArray)=⟨(b++47::a).toArray⟩:=by
 apply ByteArray.ext
 simp
theorem ZrE (p:List UInt8):∀ (l acc:List UInt8) {a b:List UInt8},Zc8 p l acc=some (a,b)->a.length+b.length<=acc.length+l.length
 | [],acc,a,b,h=>by
  rw[Zc8]at h
  split at h
  ·cases h;simp
  ·cases h
 | c::l,acc,a,b,h=>by
  rw[Zc8]at h
  split at h
  ·cases h
   have:=List.length_drop (i:=p.length) (l:=c::l)
   omega
  ·have:=ZrE p l (acc++[c]) h
   rw[List.length_append]at this
   simp only[List.length_cons,List.length_nil]at this ⊢
   omega
theorem Zx4 {f a b:List UInt8}(h:Zbk f=some (a,b)):a.length+b.length<=f.length:=by
 unfold Zbk at h
 cases hc:Zc8 [47] f [] with
 | none=>rw[hc]at h;cases h
 | some x =>
  obtain⟨c,d⟩:=x
  rw[hc]at h
  dsimp only at h
  split at h
  ·cases h
   have:=ZrE [47] f [] hc
   simpa using this
  ·cases h
theorem ZmT (f:ByteArray)(w:World)(hL:LibW w)(hs:f.size<=1000):Does Tryz.prog 227 [.string f] w (fun v O=>v = .string (Zcm f)/\O=[]):=by
 have hp:=fun w' (hw:Bel w.heap.size w w')=>ZkJ f w' (hL.up hw) (by omega)
 unfold Zcm
 cases hq:Zbk f.data.toList with
 | none =>
  rw[hq]at hp
  unfold ptsV at hp
  dsimp only at hp
  refine Zaa Tryz.func227 rfl rfl rfl rfl ?_
  repeat (first|(refine js ?_;(refine Zae hp ?_))|refine walk ?_)
  exact rtA
 | some ab =>
  obtain⟨a,b⟩:=ab
  rw[hq]at hp
  unfold ptsV at hp
  dsimp only at hp ⊢
  rw[<- Ztr]
  have hle:=Zx4 hq
  have hfl:f.data.toList.length=f.size:=Array.length_toList
  have s1:(⟨b.toArray⟩:ByteArray).size=b.length:=List.size_toArray
  have s2:(⟨a.toArray⟩:ByteArray).size=a.length:=List.size_toArray
  have s3:(⟨#[47]⟩:ByteArray).size=1:=rfl
  have s4:((⟨b.toArray⟩:ByteArray)++(⟨#[47]⟩:ByteArray)).size=b.length+1:=by rw[ByteArray.size_append,s1,s3]
  refine Zaa Tryz.func227 rfl rfl rfl rfl ?_
  repeat (first|(apply RL_pu;rfl;(apply Zfz;rfl;rfl;first|(rw[s1,s3];omega)|(rw[s4,s2];omega)))|(refine js ?_;(refine Zae hp ?_))|refine walk1 ?_)
  exact rtA
structure TgG (σ:Type) where
 k:Nat
 s:σ
theorem ZpS {σ:Type}(l bS:Nat)(Ar A Al As:Option Addr)(nr cr c nl cl ns cs:Nat)(Zs:List ZE)(OC:σ->List It)(Inv:Nat->Nat->σ->Prop)(wr:World)(s0:σ)(hzl:Zs.length<=1000000)(hel:∀ q∈Zs,q.z.eras.length<=1000000)(hA:∀ q∈Zs,0<q.z.eras.length->q.A≠none)(h0:Inv 0 0 s0)
  (hY:∀ i k q s (X Y V:It),Zs[i]?=some q->k<q.z.eras.length->Inv i k s->Zcd Tryz.prog l (.pointer (some ((adr q.A).add ((k:Int).toNat*13)))) wr (X::Y::V::OC s) fun bb O'=>bb=true/\∃ s',Inv i (k+1) s'/\SubO (X::Y::V::OC s') O')
  (hN:∀ i q s,Zs[i]?=some q->Inv i q.z.eras.length s->Inv (i+1) 0 s) :
  Zak Tryz.prog 266 [.func (.yield l) #[] #[],.pointer (some ⟨bS,0,none⟩)] wr (.blk bS [.slice Ar nr cr,.slice A Zs.length c,.slice Al nl cl,.slice As ns cs] 32::rowZ A c Zs::OC s0)
   (fun v O'=>v = .tuple #[]/\∃ s',Inv Zs.length 0 s'/\SubO (.blk bS [.slice Ar nr cr,.slice A Zs.length c,.slice Al nl cl,.slice As ns cs] 32::rowZ A c Zs::OC s') O'):=by
 refine ZaD Tryz.func266 rfl rfl rfl rfl ?_
 repeat (first|(refine js ?_;(refine bx ?_;intro bk))|refine walk ?_)
 refine Zaq [(0,.func (.yield l) #[] #[]),(1,.pointer (some ⟨bS,0,none⟩)),(7,.slice A Zs.length c),(8,.int .i64 Zs.length)] [] (fun g:TgG σ=>[(9,.int .i64 g.k)]) (fun g => .blk bS [.slice Ar nr cr,.slice A Zs.length c,.slice Al nl cl,.slice As ns cs] 32::rowZ A c Zs::OC g.s) (fun g=>g.k<=Zs.length/\Inv g.k 0 g.s) (fun g=>Zs.length - g.k) ⟨0,s0⟩ SFA ?_ ⟨Nat.zero_le _,h0⟩ ?_
 ·rw[List.append_nil];exact .refl _
 rintro⟨i,s⟩ ⟨hi,hI⟩
 dsimp only at hi hI ⊢
 rw[List.append_nil]
 generalize hT:OC s=T
 repeat (first|(refine js ?_;(refine bx ?_;intro bk))|refine walk ?_)
 refine Zah rfl (fun hc=>?_) (fun hc=>?_)
 ·have hil:i<Zs.length:=by
   have:=of_decide_eq_true hc
   omega
  obtain⟨q,hq⟩:∃ q,Zs[i]?=some q:=⟨_,List.getElem?_eq_getElem hil⟩
  have hqm:=List.mem_of_getElem? hq
  have hle:=hel q hqm
  have hqA:=hA q hqm
  have hYq:=fun k s X Y V=>hY i k q s X Y V hq
  have hNq:=fun s=>hN i q s hq
  have hqg:∀ (j:Nat) (v:Value),(ZE.enc q)[j]?=some v->(Zs.flatMap ZE.enc)[(i:Int).toNat*2+j]?=some v:=fun j v hj=>by
   have:=ZaK ZE.len Zs i q j v hq hj
   simpa using this
  obtain⟨⟨qn,qe⟩,qA,qc⟩:=q
  dsimp only at hle hqA hYq hNq
  repeat (first|(apply RL_pu;rfl;(first|(apply ZaB;rfl;rfl;omega;omega;(intro w' _ hO;exact Zca (hO.of (A:=rowZ A c Zs) (by repeat' constructor)) (by omega)))|(apply ZbZ (vs:=[.string qn,.slice qA qe.length qc]);rfl;(focus repeat' constructor);exact hqg;rfl)))|(refine js ?_;(refine bx ?_;intro bk))|refine walk1 ?_)
  subst hT
  generalize bk=bz
  refine Zaq [(0,.func (.yield l) #[] #[]),(1,.pointer (some ⟨bS,0,none⟩)),(7,.slice A Zs.length c),(8,.int .i64 Zs.length),(9,.int .i64 i),(4,.pointer (some ⟨bz,0,none⟩)),(14,.slice qA qe.length qc),(15,.int .i64 qe.length)] [] (fun h:TgG σ=>[(16,.int .i64 h.k)]) (fun h => .blk bz [.string qn,.slice qA qe.length qc] 46 :: .blk bS [.slice Ar nr cr,.slice A Zs.length c,.slice Al nl cl,.slice As ns cs] 32::rowZ A c Zs::OC h.s) (fun h=>h.k<=qe.length/\Inv i h.k h.s) (fun h=>qe.length - h.k) ⟨0,s⟩ SFA ?_ ⟨Nat.zero_le _,hI⟩ ?_
  ·rw[List.append_nil];exact .refl _
  rintro⟨k,s1⟩ ⟨hk,hI1⟩
  dsimp only at hk hI1 ⊢
  rw[List.append_nil]
  repeat (first|(refine js ?_;(refine bx ?_;intro bk))|refine walk ?_)
  refine Zah rfl (fun hd=>?_) (fun hd=>?_)
  ·have hkl:k<qe.length:=by
    have:=of_decide_eq_true hd
    omega
   repeat (first|(refine Zom ?_;apply Za9 (.inl rfl);rfl;(intro c h;cases h);(apply Pu_move;rfl);apply Za9 (.inl rfl);rfl;(intro c h;cases h);(apply Pu_fieldAddr;rfl))|(apply RL_pu;rfl;(apply ZaB;rfl;rfl;omega;omega;(intro w' _ hO;exact Zca (hO.of (A:=rowZ A c Zs) (by repeat' constructor)) (by omega))))|(refine js ?_;(refine bx ?_;intro bk))|refine walk1 ?_)
   apply Za9 (.inl rfl);rfl;(intro c h;cases h);(apply Pu_loadB1;rfl;(focus repeat' constructor);rfl)
   apply Za9 (.inl rfl);rfl;(intro c h;cases h);(apply Pu_move;rfl)
   apply Za9 (.inl rfl);rfl;(intro c h;cases h);(apply Pu_indexAddr;rfl;rfl;omega;omega;exact hqA (by omega))
   apply Zor;rfl;rfl;rfl
   ·exact hYq k s1 _ _ _ hkl hI1
   rintro bb O' ⟨rfl,s',hi',hO'⟩
   apply Za9 (.inl rfl);rfl;(intro c h;cases h);(apply Pu_not;rfl)
   refine Za0 ?_
   apply thenQ_n
   refine Zah rfl (fun h=>(by cases h)) (fun h=>?_)
   refine ZcH (fr':=[(0,.func (.yield l) #[] #[]),(1,.pointer (some ⟨bS,0,none⟩)),(7,.slice A Zs.length c),(8,.int .i64 Zs.length),(9,.int .i64 i),(4,.pointer (some ⟨bz,0,none⟩)),(14,.slice qA qe.length qc),(15,.int .i64 qe.length),(16,.int .i64 k)]) (O' := .blk bz [.string qn,.slice qA qe.length qc] 46 :: .blk bS [.slice Ar nr cr,.slice A Zs.length c,.slice Al nl cl,.slice As ns cs] 32::rowZ A c Zs::OC s') SFA hO' ?_
   repeat (first|(refine js ?_;(refine bx ?_;intro bk))|refine walk ?_)
   exact⟨⟨k+1,s'⟩,OA,⟨hkl,hi'⟩,SFA,by rw[List.append_nil];exact .refl _⟩
  ·obtain rfl:k=qe.length:=by
    have:=of_decide_eq_false hd
    omega
   have hI2:=hNq s1 hI1
   repeat (first|(refine js ?_;(refine bx ?_;intro bk))|refine walk ?_)
   exact⟨⟨i+1,s1⟩,OA,⟨hil,hI2⟩,SFA,by rw[List.append_nil];exact .drop (.refl _)⟩
 ·obtain rfl:i=Zs.length:=by
   have:=of_decide_eq_false hc
   omega
  subst hT
  repeat (first|(refine js ?_;(refine bx ?_;intro bk))|refine walk ?_)
  exact ZgI _ (.refl _) ⟨rfl,s,hI,.refl _⟩
end Go.Proofs.YtbjomhdhkpgbaaaGreatDoor
namespace Go.Proofs.YtbjomhdhkpgbaaaGreatDoor
open Go Go.RowKit Go.Wk
attribute [local irreducible] W RL Does Zar Zal retQ Calls Pu Stp RD Qy Ay
theorem ZAk {G:Prop}(h:G:=by(first|(apply Pu_indexAddr;rfl;rfl;omega;omega;(first|exact hna))|(apply Pu_loadON;rfl;(first|exact hca);rfl))):G:=h
theorem Zdf (Ar Az Al As:Option Addr)(cr cz cl cs:Nat)(a:Zac)(set:ByteArray)(w:World)(hA:Zan w Ar Az Al As cr cz cl cs a)(hn:a.rules.length<=1000000) :
  Does Tryz.prog 87 [srcV Ar Az Al As cr cz cl cs a,.string set] w (Zik 56 11 Zab.enc (ofB a.rules set)):=by
 generalize hres:ofB a.rules set=res
 refine Zaa Tryz.func87 rfl rfl rfl rfl ?_
 repeat (first|(refine js ?_;(refine bx ?_;intro bk))|refine walk ?_)
 refine Zdj 56 11 ?_
 refine Zaq [(1,_),(2,_),(4,_),(9,_),(10,_)] [_] (fun g:AG Zab=>[(5,.slice g.A g.m g.c),(11,.int .i64 g.k)]) (fun g=>[.row (.slice g.A g.m g.c) 56 11 g.m g.xs]) (fun g=>g.k<=a.rules.length/\g.m=g.acc.length/\g.xs=g.acc.flatMap Zab.enc/\g.m<=g.k/\g.acc++ofB (a.rules.drop g.k) set=res) (fun g=>a.rules.length - g.k) ⟨0,none,0,0,[],[]⟩ ⟨rfl,rfl,rfl,rfl,rfl,rfl,rfl,trivial⟩ (.cons (by repeat' constructor) (.refl _)) ⟨by simp,rfl,rfl,Nat.le_refl _,by simpa using hres⟩ ?_
 rintro⟨k,A,c,m,xs,acc⟩ ⟨hk,hm,hx,hmk,hi⟩
 dsimp only at hk hm hx hmk hi ⊢
 repeat (first|(refine js ?_;(refine bx ?_;intro bk))|refine walk ?_)
 refine Zah rfl (fun hc=>?_) (fun hc=>?_)
 ·simp only[decide_eq_true_eq,Int.ofNat_lt]at hc
  obtain⟨hna,hca⟩:=hA.r.rd k _ (List.getElem?_eq_getElem hc)
  rw[Zao hc,ofB,List.filter_cons]at hi
  generalize a.rules[k]=r at *
  repeat (first|(apply RL_pu;rfl;exact ZAk)|(refine js ?_;(refine bx ?_;intro bk))|refine walk1 ?_)
  refine Zah rfl (fun h3=>?_) (fun h3=>?_)
  ·rw[if_pos h3]at hi
   repeat (first|(apply RL_pu;rfl;exact ZAk)|(refine js ?_;(first|(apply Zay;rfl;rfl;(intro A' c';(focus repeat' constructor));(intro w' _ hO;exact Zbv (hO.of (by repeat' constructor)));rfl;rfl;(simp only[maxLen];omega);omega;intro A' c' hc1 hc2 hc3)|(refine bx ?_;intro bk)))|refine walk1 ?_)
   exact⟨⟨k+1,A',c',m+1,xs++r.enc,acc++[r]⟩,OA,⟨OA,by simp[hm],by rw[hx];exact Zfs acc r,OA,by rw[<- hi];simp[ofB]⟩,SFA,SOA⟩
  rw[h3]at hi
  repeat (first|(refine js ?_;(refine bx ?_;intro bk))|refine walk ?_)
  exact⟨⟨k+1,A,c,m,xs,acc⟩,OA,⟨OA,hm,hx,OA,hi⟩,SFA,SOA⟩
 simp only[decide_eq_false_iff_not,Int.ofNat_lt]at hc
 rw[List.drop_eq_nil_of_le (by omega)]at hi
 simp only[ofB,List.filter_nil,List.append_nil]at hi
 subst hi
 repeat (first|(refine js ?_;(refine bx ?_;intro bk))|refine walk ?_)
 exact ret_1 _ [.row (.slice A acc.length c) 56 11 acc.length (acc.flatMap Zab.enc)] (.tmp rfl) (by subst hm hx;exact SOA) ⟨A,c,by rw[hm],rfl⟩
end Go.Proofs.YtbjomhdhkpgbaaaGreatDoor
set_option maxHeartbeats 4000000
namespace Go.Proofs.YtbjomhdhkpgbaaaGreatDoor
open Go Go.RowKit Go.Wk
attribute [local irreducible] W RL Does Zar Zal retQ Calls Pu Stp RD Qy Ay Zak
theorem Zul {n:Int}(h : -1000000000<=n/\n<=1000000000):I64 n:=⟨by omega,by omega⟩
theorem Zud {a:Zac}(h:srcM a=true){r:Zab}(hr:r∈a.rules):rulM r=true:=by
 unfold srcM at h
 rw[Bool.and_eq_true,List.all_eq_true]at h
 exact h.1 r hr
theorem ZlC {a:Zac}(h:srcM a=true){z:ZaO}(hz:z∈a.zones){e:DEra}(he:e∈z.eras):eraM e=true:=by
 unfold srcM at h
 rw[Bool.and_eq_true,List.all_eq_true,List.all_eq_true]at h
 have:=h.2 z hz
 rw[List.all_eq_true]at this
 exact this e he
theorem ZpT {e:DEra}(h:eraM e=true):(-1000000000<=e.off/\e.off<=1000000000)/\(-1000000000<=e.save/\e.save<=1000000000)/\(-1000000000<=e.til.at_.sec/\e.til.at_.sec<=1000000000)/\e.format.size<=1000:=by
 unfold eraM at h
 simp only[Bool.and_eq_true,ZbU,decide_eq_true_eq]at h
 exact h
theorem ZoJ {G:Prop}(h:G:=by(apply ZaH;rfl;rfl;exact e1)):G:=h
theorem Zwv {G:Prop}(h:G:=by first|(apply Qy_y;rfl;exact ZoJ)|exact QyA):G:=h
theorem Zr5 {G:Prop}(h:G:=by repeat (first|exact QF.nil|(apply QF.mk;rfl;rfl;decide +kernel;exact Zwv))):G:=h
theorem Zi1 (Ar Az Al As:Option Addr)(cr cz cl cs:Nat)(a:Zac)(e:DEra)(w:World)(hA:Zan w Ar Az Al As cr cz cl cs a)(hn:a.rules.length<=1000000)(hm:srcM a=true)(he:eraM e=true) :
  Does Tryz.prog 189 [srcV Ar Az Al As cr cz cl cs a,.agg e.enc.toArray] w (fun v O=>v=xpV (Zbi e (Zaz a.rules e))/\O=[]):=by
 obtain⟨b1,b2,_,_⟩:=ZpT he
 have hx0:=fun w' (hw:Bel w.heap.size w w')=>Zgt e none 0 [] w' (ZuS _ _ _) (Zul b1) (Zul b2) (fun r hr=>by cases hr) (by decide)
 have hx2:=fun A2 c2 w' h=>Zgt e A2 c2 (ofB a.rules e.set) w' h (Zul b1) (Zul b2) (fun r hr=>by
  have:=Zud hm (List.mem_filter.1 hr).1
  unfold rulM at this
  rw[Bool.and_eq_true,ZbU]at this
  exact Zul this.1) (Nat.le_trans (List.length_filter_le _ _) hn)
 have hof:=fun w' (hw:Bel w.heap.size w w')=>Zdf Ar Az Al As cr cz cl cs a e.set w' (hA.up hw) hn
 unfold Zaz
 obtain⟨off,kd,sv,st,fm,⟨is,yr,mo,⟨dk,dw,dd⟩,⟨cs',cb⟩⟩⟩:=e
 dsimp only at hx0 hx2 hof ⊢
 show Does _ _ [_,.agg #[.int .i64 off,.int .i64 kd,.int .i64 sv,.string st,.string fm,.bool is,.int .i64 yr,.int .i64 mo,.int .i64 dk,.int .i64 dw,.int .i64 dd,.int .i64 cs',.int .i64 cb]] w _
 simp only[DEra.enc]at hx0 hx2
 unfold xpV at *
 by_cases hk:kd=2
 ·have e1:(!decide (kd=2))=false:=by rw[decide_eq_true hk];rfl
  rw[if_pos hk]
  refine Zaa Tryz.func189 rfl rfl rfl rfl ?_
  repeat (first|(apply RL_pu;rfl;exact ZoJ)|(apply RD_Q;rfl;rfl;decide +kernel;rfl;rfl;exact Zwv)|refine walk1 ?_|(refine jg ?_;(try intro F);(first|(apply Zad (h:=fun w' hw _=>hof w' hw);rfl;rintro v O' ⟨A2,c2,rfl,rfl⟩)|(refine ZaX (fun w' hw hO=>hx2 A2 c2 w' (Zbc Zab.len (hO.of (A := .row (.slice A2 (ofB a.rules st).length c2) _ _ _ _) (by repeat' constructor)))) ?_)|(refine bx ?_;intro bk));first|refine⟨_,EndsA,Zr5,?_⟩|refine fin ?_)|(refine jn ?_;(try intro F);(first|(refine bx ?_;intro bk)|(apply Zag;first|exact ZoJ|exact PuA));first|refine⟨_,EndsA,Zr5,?_⟩|refine fin ?_))
  exact rtB
 ·have e1:(!decide (kd=2))=true:=by rw[decide_eq_false hk];rfl
  rw[if_neg hk]
  refine Zaa Tryz.func189 rfl rfl rfl rfl ?_
  repeat (first|(apply RL_pu;rfl;exact ZoJ)|(apply RD_Q;rfl;rfl;decide +kernel;rfl;rfl;exact Zwv)|refine walk1 ?_|(refine jg ?_;(try intro F);(first|(refine Zae hx0 ?_)|(refine bx ?_;intro bk));first|refine⟨_,EndsA,Zr5,?_⟩|refine fin ?_)|(refine jn ?_;(try intro F);(first|(refine bx ?_;intro bk)|(apply Zag;first|exact ZoJ|exact PuA));first|refine⟨_,EndsA,Zr5,?_⟩|refine fin ?_))
  exact rtB
def srcC (Ar Az Al As:Option Addr)(cr cz cl cs:Nat)(a:Zac):List Value:=[.slice Ar a.rules.length cr,.slice Az a.zones.length cz,.slice Al a.links.length cl,.slice As a.shifts.length cs]
theorem ZAo {G:Prop}(h:G:=by(first|(apply Pu_loadON;rfl;exact hS;rfl)|(apply ZaH;rfl;rfl;first|exact e1|exact e2)|(apply Zmr;rfl;rfl;exact e3))):G:=h
theorem ZAn {G:Prop}(h:G:=by(first|(apply ZaH;rfl;rfl;first|exact e1|exact e2)|(apply Zmr;rfl;rfl;exact e3))):G:=h
theorem ZpY (Ar Az Al As:Option Addr)(cr cz cl cs:Nat)(a:Zac)(bS:Nat)(e:DEra)(w:World)(hL:LibW w)(hA:Zan w Ar Az Al As cr cz cl cs a)(hn:a.rules.length<=1000000)(hm:srcM a=true)(he:eraM e=true)(hc:conE a.rules e=true)(hS:Zam w ⟨bS,0,none⟩ (srcC Ar Az Al As cr cz cl cs a)) :
  Does Tryz.prog 188 [.agg e.enc.toArray,.pointer (some ⟨bS,0,none⟩)] w (fun v O=>v = .tuple #[.string (Zct e).format,.int .i64 0]/\O=[]):=by
 obtain⟨_,_,_,b4⟩:=ZpT he
 have hkd:=fun w' (hw:Bel w.heap.size w w')=>Zfo e.format w' (hL.up hw) (by omega)
 have hnum:=fun w' (hw:Bel w.heap.size w w')=>Zi1 Ar Az Al As cr cz cl cs a e w' (hA.up hw) hn hm he
 unfold conE at hc
 unfold Zct
 unfold srcC at hS
 generalize Zbi e (Zaz a.rules e)=x at *
 obtain⟨off,kd,sv,st,fm,⟨is,yr,mo,⟨dk,dw,dd⟩,⟨cs',cb⟩⟩⟩:=e
 dsimp only at hkd hnum hc ⊢
 show Does _ _ [.agg #[.int .i64 off,.int .i64 kd,.int .i64 sv,.string st,.string fm,.bool is,.int .i64 yr,.int .i64 mo,.int .i64 dk,.int .i64 dw,.int .i64 dd,.int .i64 cs',.int .i64 cb],_] w _
 simp only[DEra.enc]at hnum
 unfold xpV at hnum
 by_cases hk:ZaP fm.data.toList=5
 ·obtain⟨x1,x2⟩:=x
  have e1:(!decide (ZaP fm.data.toList=5))=false:=by rw[decide_eq_true hk];rfl
  rw[e1,Bool.false_or,Bool.and_eq_true,decide_eq_true_eq,decide_eq_true_eq]at hc
  dsimp only at hc hnum
  obtain⟨hc1,hc2⟩:=hc
  have hfm:(⟨x1.toArray⟩:ByteArray)=fm:=by rw[hc2]
  rw[hc1,hfm]at hnum
  have e2:(!decide ((0:Int)=0))=false:=rfl
  have e3:(!decide (fm=fm))=false:=by rw[decide_eq_true rfl];rfl
  rw[if_pos hk]
  refine Zaa Tryz.func188 rfl rfl rfl rfl ?_
  repeat (first|(apply RL_pu;rfl;exact ZAo)|(refine js ?_;(first|(refine Zae hkd ?_)|(refine Zae hnum ?_)|(refine bx ?_;intro bk)))|refine walk1 ?_)
  exact rtB
 ·have e1:(!decide (ZaP fm.data.toList=5))=true:=by rw[decide_eq_false hk];rfl
  rw[if_neg hk]
  refine Zaa Tryz.func188 rfl rfl rfl rfl ?_
  repeat (first|(apply RL_pu;rfl;exact ZAn)|(refine js ?_;(first|(refine Zae hkd ?_)|(refine bx ?_;intro bk)))|refine walk1 ?_)
  exact rtB
theorem ZvJ (Ar Az Al As:Option Addr)(cr cz cl cs:Nat)(a:Zac)(bS:Nat)(e:DEra)(w:World)(hA:Zan w Ar Az Al As cr cz cl cs a)(hn:a.rules.length<=1000000)(hm:srcM a=true)(he:eraM e=true)(hc:expZ a.rules e=true)(hS:Zam w ⟨bS,0,none⟩ (srcC Ar Az Al As cr cz cl cs a)) :
  Does Tryz.prog 190 [.agg e.enc.toArray,.pointer (some ⟨bS,0,none⟩)] w (fun v O=>v = .tuple #[.string (expE a.rules e).format,.int .i64 0]/\O=[]):=by
 have hnum:=fun w' (hw:Bel w.heap.size w w')=>Zi1 Ar Az Al As cr cz cl cs a e w' (hA.up hw) hn hm he
 unfold expZ at hc
 unfold expE numB
 unfold srcC at hS
 generalize Zbi e (Zaz a.rules e)=x at *
 obtain⟨off,kd,sv,st,fm,⟨is,yr,mo,⟨dk,dw,dd⟩,⟨cs',cb⟩⟩⟩:=e
 dsimp only at hnum hc ⊢
 show Does _ _ [.agg #[.int .i64 off,.int .i64 kd,.int .i64 sv,.string st,.string fm,.bool is,.int .i64 yr,.int .i64 mo,.int .i64 dk,.int .i64 dw,.int .i64 dd,.int .i64 cs',.int .i64 cb],_] w _
 simp only[DEra.enc]at hnum
 unfold xpV at hnum
 by_cases hk:fm=pctB
 ·have e3:(!decide (fm=pctB))=false:=by rw[decide_eq_true hk];rfl
  rw[e3,Bool.false_or,decide_eq_true_eq]at hc
  rw[hc]at hnum
  rw[if_pos hk]
  refine Zaa Tryz.func190 rfl rfl rfl rfl ?_
  repeat (first|(apply RL_pu;rfl;exact ZAo)|(refine js ?_;(first|(refine Zae hnum ?_)|(refine bx ?_;intro bk)))|refine walk1 ?_)
  exact rtB
 ·have e3:(!decide (fm=pctB))=true:=by rw[decide_eq_false hk];rfl
  rw[if_neg hk]
  refine Zaa Tryz.func190 rfl rfl rfl rfl ?_
  repeat (first|(apply RL_pu;rfl;exact ZAn)|(refine js ?_;(refine bx ?_;intro bk))|refine walk1 ?_)
  exact rtB
end Go.Proofs.YtbjomhdhkpgbaaaGreatDoor
