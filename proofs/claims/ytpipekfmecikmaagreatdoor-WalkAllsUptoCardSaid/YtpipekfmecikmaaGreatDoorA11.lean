/- Parts of the proof. -/
import Derived.Test.YtpipekfmecikmaaGreatDoorA10
import Derived.OrdersIn
set_option maxHeartbeats 0
set_option linter.all false
namespace Go.Wk
open Go Go.RowKit
theorem ZeE {P:Program}{n:Nat}{wr:World}{x y:Code}{Q2:Exit->Act->World->Prop}{fr:Fr}{O:List It}(I:Fr->List It->Prop)(h:W P n wr x (fun e fr O=>e = .normal/\I fr O) fr O)(k:∀ a w fr' O',St n wr fr' O' a w->I fr' O'->y.wp P Q2 a w) :
  ∀ a w,St n wr fr O a w->(Code.seq x y).wp P Q2 a w:=by
 intro a w f
 refine wp_seq (wp_mono (h a w f) ?_)
 rintro e c w' ⟨fr',O',b,rfl,d⟩
 exact k c w' fr' O' b d
theorem St.sub {n:Nat}{wr:World}{fr fr':Fr}{O O':List It}{a:Act}{w:World}(h:St n wr fr O a w)(c:Sub fr' fr)(b:SubO O' O):St n wr fr' O' a w:=⟨h.sim.sub c,h.old,h.own.sub b⟩
end Go.Wk
namespace Go.Proofs.YtpipekfmecikmaaGreatDoor
open Go Go.RowKit Go.Wk Tryz
attribute [local irreducible] W RL Does Zaq Zai retQ Calls Pu Stp RD Qy Ay Zaj RLI WI
def Asks (l b1 b2 b3:Nat)(ok:List UInt8->Bool)(OC OF:List It)(wr:World):Prop :=
 ∀ x rest:ByteArray,(x.size:Int)<=9223372036854775807->Zee prog l (.string x) wr (itO b1 b2 b3 rest ⟨#[47]⟩++OC) fun b O'=>b=ok x.data.toList/\(b=true->SubO (itO b1 b2 b3 rest ⟨#[47]⟩++OC) O')/\(b=false->SubO OF O')
theorem ZqI {G:Prop}(h:G:=by(apply Pu_loadB1;rfl;(focus repeat' constructor);rfl)):G:=h
theorem Zl2 (l p q r:Nat)(ok:List UInt8->Bool)(OC OF:List It)(wr:World)(F:Asks l p q r ok OC OF wr)(s:ByteArray)(L:(s.size:Int)<=9223372036854775807) :
  Zaj prog 313 [.func (.yield l) #[] #[],.pointer (some ⟨q,0,none⟩),.pointer (some ⟨p,0,none⟩),.pointer (some ⟨r,0,none⟩)] wr (itO p q r s ⟨#[47]⟩++OC)
   (fun v O'=>v = .tuple #[]/\((Zer s.data.toList []).all ok=true->SubO OC O')/\((Zer s.data.toList []).all ok=false->SubO OF O')):=by
 obtain⟨y,u⟩:∃ y,(Zer s.data.toList []).all ok=y:=⟨_,rfl⟩
 rw[u]
 have z:=fun(t:ByteArray) w'=>ZoH t 47 w'
 unfold itO at *
 simp only[List.cons_append,List.nil_append]at *
 refine ZbA func313 rfl rfl rfl rfl ?_
 repeat (refine walk ?_)
 refine Zah [(0,.func (.yield l) #[] #[]),(1,.pointer (some ⟨q,0,none⟩)),(2,.pointer (some ⟨p,0,none⟩)),(3,.pointer (some ⟨r,0,none⟩))] [] (fun _:ByteArray=>[]) (fun g => .blk p [.string g] 9 :: .blk q [.string ⟨#[47]⟩] 9 :: .blk r [.int .i64 0] 3::OC)
  (fun g=>(g.size:Int)<=9223372036854775807/\(Zer g.data.toList []).all ok=y) (fun g=>g.size) s SFA ?_ ⟨L,u⟩ ?_
 ·rw[List.append_nil];exact .refl _
 rintro g ⟨I,f⟩
 rw[List.append_nil]
 have e:=Zm5 g
 rw[ZiV]at f
 cases hc:cutI g.data.toList with
 | none =>
  rw[hc]at e f
  dsimp only at e f
  have d:=z g
  rw[e]at d
  have w:=I
  repeat (first|(apply Zgx;rfl;rfl;rfl;(intro c h;cases h);rfl;((apply Pu_loadB1;rfl;(focus repeat' constructor);rfl));rfl;rfl;exact F _ _ w;rintro b O' ⟨rfl,j,m⟩)|(apply RL_pu;rfl;exact ZqI)|(refine js ?_;(refine Zab (fun w' _=>d w') ?_))|refine walk1 ?_)
  refine Zbk ?_
  rw[List.nil_append,List.all_cons,List.all_nil,Bool.and_true]at f
  refine ZsT O' (.refl _) ⟨rfl,fun h=>?_,fun h=>m (by rw[f];exact h)⟩
  exact(SubO.trans (SubO.right (itO p q r g ⟨#[47]⟩) OC) (j (by rw[f];exact h)))
 | some i =>
  rw[hc]at e f
  dsimp only at e f
  have d:=z g
  rw[e]at d
  have C:=ZAL hc
  have M:g.size=g.data.toList.length:=rfl
  have D:(g.extract 0 i).data.toList=g.data.toList.take i:=by rw[ByteArray.data_extract];simp
  have E:(g.extract (i+1) g.size).data.toList=g.data.toList.drop (i+1):=by
   rw[ByteArray.data_extract]
   simp only[Array.toList_extract,List.extract_eq_take_drop]
   exact List.take_of_length_le (by rw[List.length_drop];omega)
  have J:(0:Int)<=(i:Int):=Int.natCast_nonneg i
  have K:(i:Int)<(g.data.toList.length:Int):=Int.ofNat_lt.2 C
  have w:((g.extract 0 i).size:Int)<=9223372036854775807:=by rw[ByteArray.size_extract];omega
  repeat (first|(apply Zgx;rfl;rfl;rfl;(intro c h;cases h);rfl;((apply Pu_move;rfl));rfl;rfl;exact F _ _ w;rintro b O' ⟨rfl,j,m⟩)|(apply RL_pu;rfl;(apply Zg6;rfl;rfl;omega;omega))|(refine js ?_;(refine Zab (fun w' _=>d w') ?_))|refine walk1 ?_)
  rw[List.nil_append,List.all_cons]at f
  have B:(g.extract 0 (Int.toNat ((i:Int)+0))).data.toList=g.data.toList.take i:=by rw[Int.add_zero];exact D
  rw[B]at j m
  apply ZcN (.inl rfl);rfl;(intro c h;cases h);(apply Pu_not;rfl)
  refine Zbk ?_
  apply thenQ_n
  rw[B]
  refine Zaf rfl (fun h=>?_) (fun h=>?_)
  ·simp only[Bool.not_eq_true']at h
   rw[h,Bool.false_and]at f
   subst f
   repeat (refine walk ?_)
   exact ZBG O' (.refl _) ⟨rfl,fun H=>(by cases H),fun _=>m h⟩
  ·simp only[Bool.not_eq_false']at h
   rw[h,Bool.true_and]at f
   have A:(((⟨#[47]⟩:ByteArray).size:Nat):Int)=1:=rfl
   have x:((i:Int)+(((⟨#[47]⟩:ByteArray).size:Nat):Int)).toNat=i+1:=by rw[A];omega
   refine ZcG (fr':=[(7,.int .i64 i),(0,.func (.yield l) #[] #[]),(1,.pointer (some ⟨q,0,none⟩)),(2,.pointer (some ⟨p,0,none⟩)),(3,.pointer (some ⟨r,0,none⟩))]) (O' := .blk p [.string g] 9 :: .blk q [.string ⟨#[47]⟩] 9 :: .blk r [.int .i64 0] 3::OC) SFA (j h) ?_
   repeat (first|(apply RL_pu;rfl;(apply Zg5;rfl;rfl;omega;omega))|refine walk1 ?_)
   refine⟨g.extract ((i:Int)+(((⟨#[47]⟩:ByteArray).size:Nat):Int)).toNat g.size,?_,⟨?_,?_⟩,SFA,?_⟩
   ·rw[x,ByteArray.size_extract];omega
   ·rw[x,ByteArray.size_extract];omega
   ·rw[x,E];exact f
   ·rw[List.append_nil];exact .refl _
def okP (s:ByteArray)(l:List UInt8):Bool:=decide (s.size<=60)&&ZgM l
theorem ZAp (s:ByteArray):(Zer s.data.toList []).all (okP s)=Zfl s:=by
 have a:Zer s.data.toList []≠[]:=by
  rw[ZiV];split <;> simp
 unfold Zfl okP
 by_cases h:s.size<=60
 ·simp[h]
 ·cases hc:Zer s.data.toList [] with
  | nil=>exact absurd hc a
  | cons x l=>simp[h]
theorem ZwD (l:List UInt8):ZgM l=(Zb7 1 14 31 l&&!(match l with|c::_=>decide (c=46)||decide (c=45)|[]=>false)):=rfl
def ZDT (s:ByteArray)(w:World):Ending->World->Prop:=fun e w'=>∃ v O,e = .returned v/\Bel w.heap.size w w'/\Zaz w.heap.size O w'/\v = .bool (Zfl s)/\O=[]
theorem ZkO {n:Nat}{wr:World}{fr:Fr}{O:List It}{a:Act}{w:World}{D:Nat}(c:St n wr fr (Zb0 D::O) a w):St n wr fr O a (w.putObj D (.deferred none)):=by
 have g:=c.own.inb _ List.mem_cons_self D rfl
 refine⟨c.sim,c.old.trans ⟨⟨rfl,rfl,rfl,by rw[Zd2];exact Nat.le_refl _,fun i d=>World.putObj_heap_other (by omega)⟩⟩,c.own.tail.congr (by rw[Zd2];exact Nat.le_refl _) fun b ⟨i,d,f⟩=>World.putObj_heap_other fun e=>?_⟩
 exact(List.pairwise_cons.1 c.own.sep).1 i d D rfl (e▸f)
theorem Zjs (s:ByteArray)(w:World){fr:Fr}{O R:List It}{a:Act}{w':World}{D e:Nat}{b:Bool}(g:St 28 w fr (Zb0 D::O) a w')(h:Wk.look fr 2=some (.pointer (some ⟨e,0,none⟩)))(f:Pick (.blk e [.bool b] 4) O R)(k:b=Zfl s) :
  bodyPostM Fence.wide 0 prog Tryz.f233 (ZDT s w) .ret (actD (ZeK D) a) w':=by
 have j:=Zb0.at (g.own.sat _ List.mem_cons_self)
 have c:=ZkO g
 refine⟨by simp,.inl ⟨_,_,rfl,run_takeDeferred j,?_⟩⟩
 refine⟨.bool b,?_,_,[],rfl,c.old,Zaz.nil _ _,by rw[k],rfl⟩
 have m:(w'.putObj D (.deferred none)).cell? ⟨e,0,none⟩=some (.bool b):=by
  rw[ZcR (c.own.of f)];rfl
 have d:Tryz.f233.results=[ResultVar.cell 2 4].toArray:=rfl
 show(results Tryz.f233 a.tmps).run prog _=_
 unfold results
 rw[d,List.mapM_toArray]
 simp only[Sem.run_bind,Sem.run_map]
 rw[Zcn (P:=prog) c _ (fun _=>rfl) (fun _ _=>rfl) [ResultVar.cell 2 4] [.bool b] ⟨_,[],rfl,⟨_,h,fun n l i=>?_⟩,rfl⟩]
 ·simp only[Result.andThen_ok,Sem.run_pure]
  rfl
 ·rw[Zc3]
  rw[ZcR (i.of f)];rfl
instance:ZeroT prog 62 [.nilFunc]:=⟨by kernel_rfl⟩
theorem ZlQ (s:ByteArray)(A:(s.size:Int)<=9223372036854775807)(w:World):Does prog 233 [.string s] w (fun v O=>v = .bool (Zfl s)/\O=[]):=by
 unfold Does
 refine ZkF func233 rfl rfl rfl ?_
 intro a0 ak
 -- Zaa func233
 refine ZeE (fun fr' O'=>∃ bs i,Sub [(1,.pointer (some ⟨bs,0,none⟩)),(2,.pointer (some ⟨i,0,none⟩))] fr'/\SubO [.blk bs [.string s] 9,.blk i [.bool false] 4] O') ?_ ?_ a0 w ak
 ·apply W_region
  apply RL_st;rfl;(apply Stp_boxNf;rfl;(focus repeat' constructor);intro bs)
  apply RL_st;rfl;(apply Stp_alloc;intro i)
  apply RL_nil
  exact⟨rfl,bs,i,SFA,SOA⟩
 rintro a1 w1 am O1 z ⟨bs,i,ad,aa⟩
 have ag:=z.sub ad aa
 clear ad aa z ak a0 am O1
 refine ZeE (fun fr' O'=>∃ bf j q t u,Sub [(1,.pointer (some ⟨bs,0,none⟩)),(2,.pointer (some ⟨i,0,none⟩)),(3,.pointer (some ⟨bf,0,none⟩))] fr'/\SubO (.blk bs [.string s] 9 :: .blk i [.bool false] 4 :: .blk bf [ofV j q t u] 62::ofO 1 14 31 j q t u) O') ?_ ?_ a1 w1 ag
 ·repeat (first|(refine js ?_;(first|(apply Zad (h:=fun w' _ _=>Zgb 1 14 31 w');rfl;rintro v O' ⟨j,q,t,u,rfl,rfl⟩)|(refine bx ?_;intro bk)))|refine walk ?_)
  exact⟨rfl,_,j,q,t,u,SFA,SOA⟩
 rintro a2 w2 an O2 z ⟨bf,j,q,t,u,ae,ab⟩
 have ah:=z.sub ae ab
 clear ae ab z ag a1 w1 an O2
 refine wp_seq ?_
 refine ZeE (fun fr' O'=>∃ J K L,Sub [(1,.pointer (some ⟨bs,0,none⟩)),(2,.pointer (some ⟨i,0,none⟩)),(3,.pointer (some ⟨bf,0,none⟩)),(7,itV J K L)] fr'/\SubO (itO J K L s ⟨#[47]⟩++(.blk bs [.string s] 9 :: .blk i [.bool false] 4 :: .blk bf [ofV j q t u] 62::ofO 1 14 31 j q t u)) O') ?_ ?_ a2 w2 ah
 ·repeat (first|(apply RL_pu;rfl;exact ZqI)|(refine js ?_;((apply Zad (h:=fun w' _ _=>ZlD s ⟨#[47]⟩ w');rfl;rintro v O' ⟨J,K,L,rfl,rfl⟩)))|refine walk1 ?_)
  exact⟨rfl,J,K,L,SFA,.refl _⟩
 rintro a3 w3 ao O3 z ⟨J,K,L,af,ac⟩
 have ai:=z.sub af ac
 clear af ac z ah a2 w2 ao O3
 refine wp_block ?_
 refine ZkV (gf:=313) (lb:=[.pointer (some ⟨K,0,none⟩),.pointer (some ⟨J,0,none⟩),.pointer (some ⟨L,0,none⟩)]) (fun I O2=>SubO [.blk i [.bool false] 4] O2/\((I=none/\Zfl s=true)\/(I=some .ret/\Zfl s=false))) ai rfl ?_ ?_
 ·intro fn l D
  generalize hr:Zf1 fn a3.tmps 8 _ _ D=r
  have ap:=Zl2 l J K L (okP s) (Za4 l r::Zb0 D :: .blk bs [.string s] 9 :: .blk i [.bool false] 4 :: .blk bf [ofV j q t u] 62::ofO 1 14 31 j q t u) (Za4 l { r with state := .done,pending:=some .ret }::Zb0 D::[.blk i [.bool false] 4]) w ?_ s A
  ·refine ap.sub (by unfold itO ofO;exact SOA) fun v O' ⟨_,h1,h2⟩=>?_
   rw[ZAp]at h1 h2
   cases hz:Zfl s with
   | true=>exact⟨none,_,.ready,SubO.trans (by rw[<- hr];exact .refl _) (h1 hz),by decide,SOA,.inl ⟨rfl,rfl⟩⟩
   | false=>exact⟨some .ret,_,.done,h2 hz,by decide,.refl _,.inr ⟨rfl,rfl⟩⟩
  ·intro x al hx
   refine Zhb (r:=r) (p:=8) (fr:=[(1,.pointer (some ⟨bs,0,none⟩)),(2,.pointer (some ⟨i,0,none⟩)),(3,.pointer (some ⟨bf,0,none⟩)),(7,itV J K L)]) (a0:=a3) (O1:=itO J K L al ⟨#[47]⟩++(Za4 l { r with state := .busy }::Zb0 D :: .blk bs [.string s] 9 :: .blk i [.bool false] 4 :: .blk bf [ofV j q t u] 62::ofO 1 14 31 j q t u)) (by rw[<- hr];rfl) (by rw[<- hr];rfl) (by rw[<- hr];rfl) ai.sim rfl (by unfold itO;exact cS_) (by rw[<- hr];rfl) ?_
   apply ZcN (Or.inr ⟨_,rfl⟩);rfl;(intro c h;cases h);(apply Pu_assign;rfl)
   refine Zbk ⟨rfl,?_⟩
   have T:∀ Q fr O,(∀ b:Code,b=r.body->WI (Fence.wide.inRound l) [] prog 28 w b Q fr O)->WI (Fence.wide.inRound l) [] prog 28 w r.body Q fr O:=fun Q fr O h=>h _ rfl
   refine T _ _ _ fun b hb=>?_
   rw[<- hr]at hb
   dsimp only[Zf1]at hb
   subst hb
   unfold itO ofO
   simp only[List.cons_append,List.nil_append]
   refine ZlB (ZbN (ZbR ?_))
   have aZ:(s.size:Int)<=9223372036854775807:=A
   by_cases H:(60:Int)<(s.size:Int)
   ·have C:decide ((60:Int)<(s.size:Int))=true:=dT_ H
    have g:false=okP s x.data.toList:=by
     unfold okP;rw[dF_ (by omega),Bool.false_and]
    repeat (first|(apply ZcN (Or.inr ⟨_,rfl⟩);rfl;(intro c h;cases h);(first|(apply Pu_loadB1;rfl;(focus repeat' constructor);rfl)|(apply Pu_lenS;rfl)|(apply Zav;rfl;rfl;exact C)|(apply Pu_move;rfl)|(apply Pu_pickT;rfl;rfl)))|(refine ZnC (Or.inr ⟨_,rfl⟩) rfl rfl rfl rfl rfl ?_)|(refine Zbk ?_))
    refine thenQ_n ?_
    refine Zby rfl (fun _=>?_) (fun h=>by cases h)
    refine ZbN (ZbR ?_)
    apply Zcg (Or.inr ⟨_,rfl⟩);(intro d y;cases y);(intro c h;cases h);(intro a w A;exact ZdS a w)
    (apply Stp_storeNf;rfl;rfl;(focus repeat' constructor);(focus repeat (first|exact Nf.nil|apply Nf.cons));rfl;rfl;rfl;(focus repeat' constructor))
    refine Zbk ?_
    refine thenQ_n ?_
    refine Zhw ?_
    refine blockQ_r ?_
    exact⟨_,cS_,g,fun h=>(by cases h),fun _=>SOA⟩
   have C:decide ((60:Int)<(s.size:Int))=false:=dF_ H
   have aq:okP s x.data.toList=ZgM x.data.toList:=by
    unfold okP;rw[dT_ (by omega),Bool.true_and]
   have E:=fun{base:Nat} {O:List It} {w':World} (M:Zaz base O w') (hO:SubO (ofO 1 14 31 j q t u) O)=>Zk1 (a:=1) (b:=14) (m:=31) hx (by decide) M hO
   rw[aq,ZwD]
   cases hn:Zb7 1 14 31 x.data.toList with
   | false =>
    rw[hn]at E
    have g:false=(false&&!(match x.data.toList with|c::_=>decide (c=46)||decide (c=45)|[]=>false)):=rfl
    repeat (first|(apply ZcN (Or.inr ⟨_,rfl⟩);rfl;(intro c h;cases h);(first|(apply Pu_loadB1;rfl;(focus repeat' constructor);rfl)|(apply Pu_lenS;rfl)|(apply Zav;rfl;rfl;exact C)|(apply Pu_move;rfl)|(apply Pu_not;rfl)|(apply Pu_pickT;rfl;rfl)|(apply Pu_pickF;rfl;rfl)))|(refine ZlE rfl rfl rfl ?_)|(refine ZnC (Or.inr ⟨_,rfl⟩) rfl rfl rfl rfl rfl ?_)|(apply Zcg (Or.inr ⟨_,rfl⟩);(intro d y;cases y;rfl);(intro c h;cases h);(intro a w A;exact Zfh (f:=265) (us:=[]) (cs:=[.pointer (some ⟨j,0,none⟩),.pointer (some ⟨q,0,none⟩),.pointer (some ⟨t,0,none⟩),.pointer (some ⟨u,0,none⟩)]) A rfl);(apply Zax (f:=265) (us:=[]) (vs:=[.string x]) (cs:=[.pointer (some ⟨j,0,none⟩),.pointer (some ⟨q,0,none⟩),.pointer (some ⟨t,0,none⟩),.pointer (some ⟨u,0,none⟩)]) (h:=fun w' _ M=>E M (by unfold ofO;exact SOA));rfl;rfl;rintro v O' ⟨rfl,rfl⟩))|(refine Zbk ?_))
    refine thenQ_n ?_
    refine Zby rfl (fun _=>?_) (fun h=>by cases h)
    refine ZbN (ZbR ?_)
    apply Zcg (Or.inr ⟨_,rfl⟩);(intro d y;cases y);(intro c h;cases h);(intro a w A;exact ZdS a w)
    (apply Stp_storeNf;rfl;rfl;(focus repeat' constructor);(focus repeat (first|exact Nf.nil|apply Nf.cons));rfl;rfl;rfl;(focus repeat' constructor))
    refine Zbk ?_
    refine thenQ_n ?_
    refine Zhw ?_
    refine blockQ_r ?_
    exact⟨_,cS_,g,fun h=>(by cases h),fun _=>SOA⟩
   | true =>
    rw[hn]at E
    have au:=(ZgP hn).1
    have Z:(0:Int)<(x.size:Int):=by omega
    cases hxl:x.data.toList with
    | nil =>
     exfalso
     have h0:x.size=0:=by
      have:x.size=x.data.toList.length:=rfl
      rw[this,hxl];rfl
     omega
    | cons c tl =>
    have Y:x.data.toList.getD (Int.toNat 0) 0=c:=by rw[hxl];rfl
    dsimp only
    by_cases S:c=46
    ·subst S
     have B:decide (((46:UInt8).toNat:Int)=46)=true:=by decide
     have F:=B
     have g:false=(true&&!(decide ((46:UInt8)=46)||decide ((46:UInt8)=45))):=by decide
     repeat (first|(apply ZcN (Or.inr ⟨_,rfl⟩);rfl;(intro c h;cases h);(first|(apply Pu_loadB1;rfl;(focus repeat' constructor);rfl)|(apply Pu_lenS;rfl)|(apply Zav;rfl;rfl;exact C)|(apply Pu_move;rfl)|(apply Pu_not;rfl)|(apply Pu_pickT;rfl;rfl)|(apply Pu_pickF;rfl;rfl)|(apply Za3;rfl;rfl;decide;exact Z;exact Y)|(apply Zap;rfl;rfl;first|exact B|exact F)))|(refine ZlE rfl rfl rfl ?_)|(refine ZnC (Or.inr ⟨_,rfl⟩) rfl rfl rfl rfl rfl ?_)|(apply Zcg (Or.inr ⟨_,rfl⟩);(intro d y;cases y;rfl);(intro c h;cases h);(intro a w A;exact Zfh (f:=265) (us:=[]) (cs:=[.pointer (some ⟨j,0,none⟩),.pointer (some ⟨q,0,none⟩),.pointer (some ⟨t,0,none⟩),.pointer (some ⟨u,0,none⟩)]) A rfl);(apply Zax (f:=265) (us:=[]) (vs:=[.string x]) (cs:=[.pointer (some ⟨j,0,none⟩),.pointer (some ⟨q,0,none⟩),.pointer (some ⟨t,0,none⟩),.pointer (some ⟨u,0,none⟩)]) (h:=fun w' _ M=>E M (by unfold ofO;exact SOA));rfl;rfl;rintro v O' ⟨rfl,rfl⟩))|(refine Zbk ?_))
     refine thenQ_n ?_
     refine Zby rfl (fun _=>?_) (fun h=>by cases h)
     refine ZbN (ZbR ?_)
     apply Zcg (Or.inr ⟨_,rfl⟩);(intro d y;cases y);(intro c h;cases h);(intro a w A;exact ZdS a w)
     (apply Stp_storeNf;rfl;rfl;(focus repeat' constructor);(focus repeat (first|exact Nf.nil|apply Nf.cons));rfl;rfl;rfl;(focus repeat' constructor))
     refine Zbk ?_
     refine thenQ_n ?_
     refine Zhw ?_
     refine blockQ_r ?_
     exact⟨_,cS_,g,fun h=>(by cases h),fun _=>SOA⟩
    have W:(c.toNat:Int)≠46:=fun e=>S (UInt8.toNat_inj.1 (by show c.toNat=46;omega))
    by_cases R:c=45
    ·subst R
     have B:decide (((45:UInt8).toNat:Int)=46)=false:=by decide
     have F:decide (((45:UInt8).toNat:Int)=45)=true:=by decide
     have g:false=(true&&!(decide ((45:UInt8)=46)||decide ((45:UInt8)=45))):=by decide
     repeat (first|(apply ZcN (Or.inr ⟨_,rfl⟩);rfl;(intro c h;cases h);(first|(apply Pu_loadB1;rfl;(focus repeat' constructor);rfl)|(apply Pu_lenS;rfl)|(apply Zav;rfl;rfl;exact C)|(apply Pu_move;rfl)|(apply Pu_not;rfl)|(apply Pu_pickT;rfl;rfl)|(apply Pu_pickF;rfl;rfl)|(apply Za3;rfl;rfl;decide;exact Z;exact Y)|(apply Zap;rfl;rfl;first|exact B|exact F)))|(refine ZlE rfl rfl rfl ?_)|(refine ZnC (Or.inr ⟨_,rfl⟩) rfl rfl rfl rfl rfl ?_)|(apply Zcg (Or.inr ⟨_,rfl⟩);(intro d y;cases y;rfl);(intro c h;cases h);(intro a w A;exact Zfh (f:=265) (us:=[]) (cs:=[.pointer (some ⟨j,0,none⟩),.pointer (some ⟨q,0,none⟩),.pointer (some ⟨t,0,none⟩),.pointer (some ⟨u,0,none⟩)]) A rfl);(apply Zax (f:=265) (us:=[]) (vs:=[.string x]) (cs:=[.pointer (some ⟨j,0,none⟩),.pointer (some ⟨q,0,none⟩),.pointer (some ⟨t,0,none⟩),.pointer (some ⟨u,0,none⟩)]) (h:=fun w' _ M=>E M (by unfold ofO;exact SOA));rfl;rfl;rintro v O' ⟨rfl,rfl⟩))|(refine Zbk ?_))
     refine thenQ_n ?_
     refine Zby rfl (fun _=>?_) (fun h=>by cases h)
     refine ZbN (ZbR ?_)
     apply Zcg (Or.inr ⟨_,rfl⟩);(intro d y;cases y);(intro c h;cases h);(intro a w A;exact ZdS a w)
     (apply Stp_storeNf;rfl;rfl;(focus repeat' constructor);(focus repeat (first|exact Nf.nil|apply Nf.cons));rfl;rfl;rfl;(focus repeat' constructor))
     refine Zbk ?_
     refine thenQ_n ?_
     refine Zhw ?_
     refine blockQ_r ?_
     exact⟨_,cS_,g,fun h=>(by cases h),fun _=>SOA⟩
    have V:(c.toNat:Int)≠45:=fun e=>R (UInt8.toNat_inj.1 (by show c.toNat=45;omega))
    have B:decide ((c.toNat:Int)=46)=false:=dF_ W
    have F:decide ((c.toNat:Int)=45)=false:=dF_ V
    have U:true=(true&&!(decide (c=46)||decide (c=45))):=by rw[dF_ S,dF_ R];rfl
    repeat (first|(apply ZcN (Or.inr ⟨_,rfl⟩);rfl;(intro c h;cases h);(first|(apply Pu_loadB1;rfl;(focus repeat' constructor);rfl)|(apply Pu_lenS;rfl)|(apply Zav;rfl;rfl;exact C)|(apply Pu_move;rfl)|(apply Pu_not;rfl)|(apply Pu_pickT;rfl;rfl)|(apply Pu_pickF;rfl;rfl)|(apply Za3;rfl;rfl;decide;exact Z;exact Y)|(apply Zap;rfl;rfl;first|exact B|exact F)))|(refine ZlE rfl rfl rfl ?_)|(refine ZnC (Or.inr ⟨_,rfl⟩) rfl rfl rfl rfl rfl ?_)|(apply Zcg (Or.inr ⟨_,rfl⟩);(intro d y;cases y;rfl);(intro c h;cases h);(intro a w A;exact Zfh (f:=265) (us:=[]) (cs:=[.pointer (some ⟨j,0,none⟩),.pointer (some ⟨q,0,none⟩),.pointer (some ⟨t,0,none⟩),.pointer (some ⟨u,0,none⟩)]) A rfl);(apply Zax (f:=265) (us:=[]) (vs:=[.string x]) (cs:=[.pointer (some ⟨j,0,none⟩),.pointer (some ⟨q,0,none⟩),.pointer (some ⟨t,0,none⟩),.pointer (some ⟨u,0,none⟩)]) (h:=fun w' _ M=>E M (by unfold ofO;exact SOA));rfl;rfl;rintro v O' ⟨rfl,rfl⟩))|(refine Zbk ?_))
    refine thenQ_n ?_
    refine Zby rfl (fun h=>by cases h) (fun _=>?_)
    refine Zef ?_
    refine blockQ_n ?_
    exact⟨_,cS_,U,fun _=>SubO.trans (by rw[<- hr];exact .refl _) (.refl _),fun h=>(by cases h)⟩
 ·rintro I O2 D w4 ⟨N,⟨rfl,hz⟩|⟨rfl,hz⟩⟩ aj
  ·have X:St 28 w [(2,.pointer (some ⟨i,0,none⟩))] [Zb0 D,.blk i [.bool false] 4] a3 w4:=aj.sub SFA (.cons .here N)
   show(Code.seq _ _).wp _ _ _ _
   have key:∀ c Q' Q3,WI Fence.wide (ZeK D) prog 28 w c Q' [(2,.pointer (some ⟨i,0,none⟩))] [Zb0 D,.blk i [.bool false] 4]->(∀ e a' w',Ztx (ZeK D) 28 w Q' e a' w'->Q3 e a' w')->c.wp prog Q3 (actD (ZeK D) a3) w4:=fun c Q' Q3 h hq=>(wpIn_wide (n:=0)).1 (wpIn_mono (h.at X) hq)
   refine key _ (fun e fr O=>e = .ret/\Sub [(2,.pointer (some ⟨i,0,none⟩))] fr/\SubO [Zb0 D,.blk i [.bool true] 4] O) _ (ZbN (ZbR ?_)) ?_
   ·apply Zcg (.inl rfl);(intro d y;cases y);(intro c h;cases h);(intro a w A;exact ZdS a w)
    (apply Stp_storeNf;rfl;rfl;(focus repeat' constructor);(focus repeat (first|exact Nf.nil|apply Nf.cons));rfl;rfl;rfl;(focus repeat' constructor))
    refine Zbk ?_
    refine thenQ_n ?_
    refine Zhw ?_
    exact⟨rfl,SFA,.refl _⟩
   ·rintro e a' w' ⟨y,fr',O',ar,rfl,hf,hO⟩
    have h:=Zjs s w (ar.sub hf hO) rfl (.here) hz.symm
    rw[ZdU y]at h
    exact h
  ·have X:St 28 w [(2,.pointer (some ⟨i,0,none⟩))] [Zb0 D,.blk i [.bool false] 4] a3 w4:=aj.sub SFA (.cons .here N)
   refine wp_ret ?_
   exact Zjs s w X rfl .here hz.symm
end Go.Proofs.YtpipekfmecikmaaGreatDoor
set_option maxHeartbeats 0
namespace Go.Wk
open Go Go.RowKit
theorem ZnR {P:Program}{n:Nat}{f:FuncId}{fn:Func}{c:Code}{args:List Value}{wr w:World}{O:List It}{R:Ending->World->Prop}(k:P.funcs[f]?=some fn)(j:fn.body=some c)(m:fn.ntmps=n)(g:Nat.ble args.length n=true)
  (d:Bel wr.heap.size wr w) (e:Zaz wr.heap.size O w) (h:∀ a,St n wr (Ze1 0 args) O a w->c.wp P (bodyPostM Fence.wide 0 P fn R) a w):Calls P f args.toArray w R:=by
 refine(callsIn_wide (n:=0)).1 (callsIn_of_wp_marks k j trivial ?_)
 refine(wpIn_wide (n:=0)).2 (h _ ?_)
 have i:args.length<=n:=Nat.le_of_ble_eq_true g
 refine⟨⟨rfl,by simp;omega,fun t v l=>?_⟩,d,e⟩
 have:=(Zc7 args 0 t v l).2
 simp only[Nat.sub_zero]at this
 have b:t<args.length:=(List.getElem?_eq_some_iff.1 this).1
 rw[Array.getElem?_append_left (by simpa using b)]
 simpa using this
theorem ZoY {P:Program}{b:Option Tmp}{x y:Operand}{c:Array TypeId}{ty:TypeId}{pos:String}{af:Array Edge}{g:Option (Nat × Bool)}(a:Act)(w:World):calm ((execOp a.eval ⟨b,.call ⟨.builtin .append,#[x,y],c⟩,ty,pos,af,g⟩).run P w):=by
 simp only[execOp,resolve,invoke,builtin,Sem.run_bind,Sem.run_pure,Result.andThen_ok]
 generalize Sem.run P _ w=r
 cases r <;> simp[calm,Result.andThen]
end Go.Wk
namespace Go.Proofs.YtpipekfmecikmaaGreatDoor
open Go Go.RowKit Go.Wk Tryz
attribute [local irreducible] W RL Does Zaq Zai retQ Calls Pu Stp RD Qy Ay Zaj RLI WI
def ZAF (A:Option Addr)(n c:Nat)(v:Value)(O:List It):Prop:=∃ bl,v = .func (.func 302) #[] #[.pointer (some ⟨bl,0,none⟩)]/\O=[.blk bl [.slice A n c] 22]
theorem ZoK (A:Option Addr)(n c:Nat)(w:World):Does prog 288 [.slice A n c] w (ZAF A n c):=by
 refine Zaa func288 rfl rfl rfl rfl ?_
 repeat (first|(refine js ?_;(refine bx ?_;intro d))|refine walk ?_)
 exact ret_1 _ [.blk d [.slice A n c] 22] (.tmp rfl) SOA ⟨d,rfl,rfl⟩
structure FiG (σ:Type) where
 k:Nat
 d:List Zac
 s:σ
set_option maxRecDepth 20000
theorem Zzg {G:Prop}(h:G:=by(apply Pu_loadB1;rfl;(focus repeat' constructor);rfl)):G:=h
set_option maxHeartbeats 0 in
theorem Zm0 {σ:Type}(L t:Nat)(A:Option Addr)(c:Nat)(l:List DRule)(OC:σ->List It)(Inv:List Zac->σ->Prop)(wr:World)(s0:σ)(h0:Inv [] s0)(hG:Glob wr)(N:RdSl wr A c DRule.enc 11 l)(hn:l.length<=1000000)(hR:∀ r∈l,-4611686018427387904<=r.save/\r.save<=4611686018427387904)(hF:∀ r∈l,r.from_<=4611686018427387904)
  (hY:∀ (d:List Zac) (e:Zac) (s:σ) (X Y:It),(∃ (k:Nat) (r:DRule),l[k]?=some r/\e.rule=k)->Inv d s->Zee prog L (.agg e.enc.toArray) wr (X::Y::OC s) fun bb O'=>bb=true/\∃ f,Inv (d++[e]) f/\SubO (X::Y::OC f) O') :
  Zaj prog 302 [.func (.yield L) #[] #[],.pointer (some ⟨t,0,none⟩)] wr (.blk t [.slice A l.length c] 22::OC s0)
   (fun v O'=>v = .tuple #[]/\∃ f,Inv (firL (Zae l) l 0) f/\SubO (.blk t [.slice A l.length c] 22::OC f) O'):=by
 have Z:=fun(i:Nat) r (F:l[i]?=some r) y w' (hw:Bel wr.heap.size wr w')=>Zgi A c l i y r w' (hG.up hw) (N.up hw) F hn hR
 have ab:∀ (r:DRule) (i y:Int) e,onR (Zae l) r i y=some e->e.rule=i:=fun r i y e h=>by
  unfold onR at h
  split at h
  ·cases h
  ·split at h
   ·cases h
   ·cases h;rfl
 generalize Zae l=least at *
 obtain⟨E,m⟩:∃ E,firL least l 0=E:=⟨_,rfl⟩
 rw[m]
 have af:=N.le
 have V:=N.cap
 simp only[maxLen]at V
 refine ZbA func302 rfl rfl rfl rfl ?_
 repeat (first|(refine js ?_;(refine bx ?_;intro q))|refine walk ?_)
 refine Zah [(0,.func (.yield L) #[] #[]),(1,.pointer (some ⟨t,0,none⟩)),(9,.slice A l.length c),(10,.int .i64 l.length)] [] (fun g:FiG σ=>[(11,.int .i64 g.k)]) (fun g => .blk t [.slice A l.length c] 22::OC g.s) (fun g=>g.k<=l.length/\Inv g.d g.s/\g.d++firL least (l.drop g.k) g.k=E) (fun g=>l.length - g.k) ⟨0,[],s0⟩ SFA ?_ ⟨Nat.zero_le _,h0,by dsimp only;rw[List.drop_zero,List.nil_append];exact m⟩ ?_
 ·rw[List.append_nil];exact .refl _
 clear m
 rintro⟨k,d,s⟩ ⟨hk,F,hd⟩
 dsimp only at hk F hd ⊢
 rw[List.append_nil]
 repeat (first|(refine js ?_;(refine bx ?_;intro q))|refine walk ?_)
 refine Zaf rfl (fun U=>?_) (fun U=>?_)
 ·have C:k<l.length:=by simpa using U
  have z:=List.getElem?_eq_getElem C
  obtain⟨hna,hca⟩:=N.rd k _ z
  have ad:=hF _ (List.getElem_mem C)
  rw[Zag C,firL]at hd
  generalize l[k]=r at *
  obtain⟨u,J⟩:∃ u,max r.from_ (-2000000000)=u:=⟨_,rfl⟩
  have K:(if r.from_ < -2000000000 then -2000000000 else r.from_)=u:=by rw[<- J];split <;> omega
  have ac : -2000000000<=u/\u<=4611686018427387904:=by omega
  rw[J]at hd
  have M:=Z k r z
  obtain⟨H,D⟩:∃ H,fiIn least r k u 9=H:=⟨_,rfl⟩
  rw[D]at hd
  obtain⟨nm,fr,to,mo,⟨S,T,dd⟩,⟨cs,R⟩,sv,le⟩:=r
  change Zat wr _ [.string nm,.int .i64 fr,.int .i64 to,.int .i64 mo,.int .i64 S,.int .i64 T,.int .i64 dd,.int .i64 cs,.int .i64 R,.int .i64 sv,.string le]at hca
  dsimp only at K
  repeat (refine ZlY ?_)
  refine W_block ?_
  repeat (first|(apply RL_pu;rfl;(first|exact PuI|(apply Zdz;rfl;rfl;exact K)))|(refine js ?_;(refine bx ?_;intro q))|refine walkB1 ?_)
  refine Zb4 (fun fr' O'=>∃ f,Inv (d++H.toList) f/\Sub [(0,.func (.yield L) #[] #[]),(1,.pointer (some ⟨t,0,none⟩)),(9,.slice A l.length c),(10,.int .i64 l.length),(11,.int .i64 k)] fr'/\SubO (.blk t [.slice A l.length c] 22::OC f) O') ?_ ?_
  ·repeat (first|(refine js ?_;(refine bx ?_;intro q))|refine walk ?_)
   refine Zah [(0,.func (.yield L) #[] #[]),(1,.pointer (some ⟨t,0,none⟩)),(3,.int .i64 k),(5,.int .i64 u),(9,.slice A l.length c),(10,.int .i64 l.length),(11,.int .i64 k)] [] (fun g:Nat × Int=>[(6,.int .i64 g.2)]) (fun _ => .blk t [.slice A l.length c] 22::OC s) (fun g=>g.1<=9/\g.2=u+g.1/\fiIn least ⟨nm,fr,to,mo,⟨S,T,dd⟩,⟨cs,R⟩,sv,le⟩ k g.2 (9 - g.1)=H) (fun g=>9 - g.1) (0,u) SFA ?_ ⟨Nat.zero_le _,by simp,D⟩ ?_
   ·rw[List.append_nil]
    exact .drop (.refl _)
   clear D
   rintro⟨j,y⟩ ⟨hj,hy,hf⟩
   dsimp only at hj hy hf ⊢
   rw[List.append_nil]
   repeat (first|(refine js ?_;(refine bx ?_;intro q))|refine walk ?_)
   refine Zaf rfl (fun x=>?_) (fun x=>?_)
   ·have ae:j<9:=by have:=of_decide_eq_true x;omega
    rw[show 9 - j=(8 - j)+1 by omega,fiIn]at hf
    have Q:=M y
    have aa:=ab ⟨nm,fr,to,mo,⟨S,T,dd⟩,⟨cs,R⟩,sv,le⟩ k y
    generalize onR least _ k y=o at *
    cases o with
    | none =>
     simp only[evV,Zac.enc,dEv0,Option.isSome]at Q hf
     repeat (first|(apply RL_pu;rfl;exact Zzg)|(refine js ?_;(first|(refine Zab Q ?_)|(refine bx ?_;intro q)))|refine walk1 ?_)
     refine⟨(j+1,y+1),OA,⟨OA,by dsimp only;omega,by dsimp only;rw[show 9 - (j+1)=8 - j by omega];exact hf⟩,SFA,?_⟩
     exact .drop (.refl _)
    | some e =>
     have I:=aa e rfl
     obtain⟨ey,er,en⟩:=e
     simp only[evV,Zac.enc,Option.isSome]at Q hf I
     subst hf
     repeat (first|(apply Zgx;rfl;rfl;rfl;(intro c h;cases h);rfl;(apply Pu_loadNf;rfl;(focus repeat' constructor);exact NfA;rfl);rfl;rfl;exact hY d ⟨ey,er,en⟩ s _ _ ⟨k,_,z,I⟩ F;rintro bb O' ⟨rfl,f,B,w⟩)|(apply RL_pu;rfl;exact Zzg)|(refine js ?_;(first|(refine Zab Q ?_)|(refine bx ?_;intro q)))|refine walk1 ?_)
     apply ZcN (.inl rfl);rfl;(intro c h;cases h);(apply Pu_not;rfl)
     refine Zbk ?_
     apply thenQ_n
     refine Zaf rfl (fun h=>(by cases h)) (fun h=>?_)
     repeat (first|(refine js ?_;(refine bx ?_;intro q))|refine walk ?_)
     exact⟨rfl,f,B,SFA,SubO.trans (.drop (.refl _)) w⟩
   ·obtain rfl:j=9:=by have:=of_decide_eq_false x;omega
    obtain rfl:none=H:=hf
    repeat (first|(refine js ?_;(refine bx ?_;intro q))|refine walk ?_)
    exact⟨rfl,s,by rw[Option.toList,List.append_nil];exact F,SFA,.refl _⟩
  ·rintro fr' O' ⟨f,B,W,w⟩
   apply blockQ_n
   apply thenQ_n
   refine ZcG W w ?_
   repeat (first|(refine js ?_;(refine bx ?_;intro q))|refine walk ?_)
   exact⟨⟨k+1,d++H.toList,f⟩,OA,⟨OA,B,by dsimp only;rw[List.append_assoc];exact hd⟩,SFA,by rw[List.append_nil];exact .refl _⟩
 ·obtain rfl:k=l.length:=by simp only[decide_eq_false_iff_not,Int.ofNat_lt]at U;omega
  rw[List.drop_length,firL,List.append_nil]at hd
  subst hd
  repeat (first|(refine js ?_;(refine bx ?_;intro q))|refine walk ?_)
  exact ZsT _ (.refl _) ⟨rfl,s,F,.refl _⟩
end Go.Proofs.YtpipekfmecikmaaGreatDoor
namespace Go.Wk
open Go Go.RowKit
def Zkp:Op->Bool
 | .move _ | .assign _ | .pick .. | .alloc _ | .box .. | .build .. | .load .. | .store .. | .binOp .. | .unOp .. | .convert .. | .fieldAddr .. | .field .. | .indexAddr .. | .index .. => true
 | _=>false
theorem Zx3 {P:Program}(s:Sem Value)(w:World):calm ((do pure (.value (<- s)):Sem Next).run P w):=by
 simp only[Sem.run_bind]
 generalize s.run P w=r
 cases r <;> simp[calm,Result.andThen]
theorem Zx4 {P:Program}(s:Sem Unit)(w:World):calm ((do s;pure .skip:Sem Next).run P w):=by
 simp only[Sem.run_bind]
 generalize s.run P w=r
 cases r <;> simp[calm,Result.andThen]
theorem ZcF {P:Program}{ρ:Operand->Value}{o:Oper}(h:Zkp o.op=true)(w:World):calm ((execOp ρ o).run P w):=by
 obtain⟨d,op,ty,pos,af,g⟩:=o
 cases op <;> first|(cases h;done)|exact Zx3 _ w|exact Zx4 _ w|skip
 case move x=>simp[execOp,calm]
 case assign x=>simp[execOp,calm]
 case pick c a b =>
  simp only[execOp,Sem.run_bind]
  generalize (asBool _).run P w=r
  cases r <;> simp[calm,Result.andThen]
theorem Znp {o:Oper}(h:Zkp o.op=true):∀ c,o.op ≠ .defer c:=by
 intro c a
 rw[a]at h
 cases h
theorem ZkJ {F:Fence}(d:WF F){n:Nat}{P:Program}{o:Oper}{a a2:Act}{w:World}{K K2:Act->World->Prop}{Q Q2:Exit->Act->World->Prop}(b:a2.eval=a.eval)(l:∀ c,o.op ≠ .defer c)(k:calm ((execOp a.eval o).run P w))(h:o.wp P a w K Q)(i:∀ e a w,Q e a w->e = .normal)
  (g:∀ v w',K (a.put o.dst v) w'->K2 (a2.put o.dst v) w'):o.wpIn F n P a2 w K2 Q2:=by
 refine⟨fun f _=>d.fn f,?_⟩
 rw[Oper.semAt_eq _ _ _ l,b]
 unfold Oper.wp at h
 generalize (execOp a.eval o).run P w=r at *
 cases r with
 | ok nx w' =>
  cases nx with
  | value v=>exact g _ _ h
  | skip=>exact g _ _ h
  | enter f args =>
   rw[Oper.upon_enter]at h
   rw[Oper.uponIn_enter]
   refine⟨fun j=>(by rw[d.depth]at j;cases j),(d.calls h).mono ?_⟩
   intro e m b
   cases e with
   | returned v=>exact g _ _ b
   | panicked c=>cases i _ _ _ b
   | outgrown=>exact b.elim fun a h=>h.elim fun w h=>(by cases i _ _ _ h)
  | _=>exact k.elim
 | halt x w' =>
  cases x with
  | panic v=>cases i _ _ _ h
  | _=>exact h.elim
section
variable {F:Fence}{P:Program}{n:Nat}{wr:World}{ops:Array Oper}{K:Fr->List It->Prop}{fr:Fr}{O:List It}{D:List Deferred}
theorem Zxb (g:WF F)(p:∀ o∈ops.toList,Zkp o.op=true){Q Q2:Exit->Act->World->Prop}(k:∀ e a w,Q e a w->e = .normal)(j:∀ a w,Q .normal a w->Q2 .normal (actD D a) w) :
  ∀ (m:Nat) (b:Array Bool) (a:Act) (w:World),wpAny P .any ops Q m b a w->wpAnyIn F 0 P .any ops Q2 m b (actD D a) w:=by
 intro m
 induction m with
 | zero=>intro b a w h;exact⟨h.1,j _ _ h.2⟩
 | succ m ih =>
  intro b a w h
  refine⟨fun s=>j _ _ (h.1 s),fun i q=>?_⟩
  have c:=h.2 i q
  unfold wpOp at c
  unfold wpOpIn
  cases ho:ops[i]? with
  | none=>rw[ho]at c;exact ih _ _ _ c
  | some o =>
   rw[ho]at c
   have d:Zkp o.op=true:=p o (by
    rw[Array.mem_toList_iff]
    exact Array.mem_of_getElem? ho)
   dsimp only at c ⊢
   rw[show(actD D a).tmps=a.tmps from rfl]
   by_cases l:Region.wanted o (yielded ops a.tmps)=true
   ·rw[if_pos l]at c ⊢
    rcases c with c|⟨_,c⟩
    ·exact ZkJ (a:=a) g rfl (Znp d) (ZcF d w) c k fun v w' r=>by
      rw[Zcu]
      exact ih _ _ _ r
    ·obtain⟨_,_,n⟩:=c
     cases k _ _ _ n
   ·rw[if_neg l]at c ⊢
    refine⟨fun f _=>g.fn f,?_⟩
    rw[Zcu]
    exact ih _ _ _ c
theorem Znx {l:List Oper}(d:acyc l.toArray=true)(h:RD P n wr l.toArray (enum 0 l) [] [] K fr O){a:Act}{w:World}(r:St n wr fr O a w) :
  wpAny P .any l.toArray (ZfI n wr [] K) l.toArray.size (Array.replicate l.toArray.size false) a { w with drawn:=w.drawn+1 }:=by
 have f:=h ⟨by simp[Zea,List.nodup_range'],by simp,trivial,trivial,fun p c=>by simpa using(Zgk l 0 p c).2⟩ l.length [] [] [] [] a { w with drawn:=w.drawn+1 } (List.Sublist.refl _) (by simp)
  (by have h:=r.drawn (m:=w.drawn+1) (Nat.le_succ _);rw[show O++(ZcI []++[])=O from by simp[ZcI]];exact h) (by simp[Zlj]) (fun k o i q=>absurd (by
   have b:k<l.length:=by have:=(Array.getElem?_eq_some_iff.1 i).1;simpa using this
   have:k∈(enum 0 l).map (·.1):=by rw[Zea];simp;exact b
   obtain⟨p,c,rfl⟩:=List.mem_map.1 this
   exact .inl ⟨p,c,rfl⟩) q)
 refine Zju d _ _ _ _ _ (by simp) ?_ (by simpa using f)
 intro j
 unfold Tof
 constructor
 ·rintro(⟨p,c,rfl⟩|⟨_,hh,_⟩|⟨_,hh,_⟩)
  ·have:=(List.getElem?_eq_some_iff.1 (Zgk l 0 p c).2).1
   have g:p.1<l.length:=by omega
   simp[Array.getD_eq_getD_getElem?,g]
  ·cases hh
  ·cases hh
 ·intro e
  have b:j<l.length:=by
   rcases Nat.lt_or_ge j l.length with h0|h0
   ·exact h0
   ·rw[Array.getD_eq_getD_getElem?,Array.getElem?_eq_none (by simpa using h0)]at e
    simp at e
  have:j∈(enum 0 l).map (·.1):=by rw[Zea];simp;exact b
  obtain⟨p,c,rfl⟩:=List.mem_map.1 this
  exact .inl ⟨p,c,rfl⟩
theorem ZuH {Q:Exit->Fr->List It->Prop}{s:Nat}{l:List Oper}(i:WF F)(m:P.follows .mixedOrders=true)(c:acyc l.toArray=true)(j:l.all (fun o=>Zkp o.op)=true)(h:RD P n wr l.toArray (enum 0 l) [] [] (Q .normal) fr O):WI F D P n wr (.region s l.toArray true) Q fr O:=by
 intro a w r
 have g:=Znx c h r
 refine wpIn_region_any m (Zxb i (fun o p=>List.all_eq_true.1 j o (by simpa using p)) (fun e a w k=>k.1) ?_ _ _ _ _ g)
 rintro f w' ⟨_,fr',O',d,q⟩
 refine⟨rfl,fr',O',?_,q⟩
 have b:St n wr fr' O' f w':=by simpa using d
 rw[Zed b]
 exact b
theorem ZkG {l p:Nat}{r:Loop}{v:Value}{a0:Act}{R:Bool->List It->Prop}(B:r.params = #[p])(N:r.state = .ready)(Q:r.tmps=a0.tmps)(f:Sim n fr a0)(q:Nat.ble (p+1) n=true)
  (j:Za4 l r∈O) {E:Nat} {y:List Oper} (i:r.assign = .region E y.toArray false)
  (J:RLI (Fence.wide.inRound l) [] P n wr y.toArray y (fun fr' O'=>∃ O1,Upd O' (Za4 l r) (Za4 l { r with state := .busy }) O1/\WI (Fence.wide.inRound l) [] P n wr r.body (ZxN l r R) fr' O1) ((p,v)::fr) O):Zee P l v wr O R:=by
 intro w H A
 have M:=Za4.at (A.sat _ j)
 have D:=run_yield (P:=P) (args := #[v]) M (by rw[B];rfl)
 rw[B,Q]at D
 refine⟨r.fn,_,r.assign,r.body,D,roundIn_of_wpIn trivial ?_⟩
 have u:St n wr ((p,v)::fr) O { tmps:=a0.tmps.setIfInBounds p v,defers:=[] } w:=by
  have:=f.put q v
  refine⟨?_,H,A⟩
  have e:({ tmps:=a0.tmps.setIfInBounds p v,defers:=[] }:Act)=a0.put (some p) v:=by
   have:=f.defers
   simp[Act.put,this]
  rw[e]
  exact this
 rw[i,show Array.foldl (fun tmps (x:Tmp × Value)=>match x with|(t,a)=>tmps.setIfInBounds t a) a0.tmps (#[p].zip #[v])=a0.tmps.setIfInBounds p v by simp]
 refine wpIn_mono (wpIn_region_lit (J _ w u)) ?_
 rintro e S w' ⟨rfl,K,fr',O',k,O1,C,I⟩
 have o:=Za4.at (k.own.sat _ C.mem)
 refine⟨_,run_beginRound o N,?_⟩
 have s:=Zc0 k C
 have z:=I _ _ s
 rw[ZdU K]at z
 refine wpIn_mono z ?_
 rintro F a2 T ⟨L,G,O2,d,h⟩
 cases F with
 | normal =>
  obtain⟨O3,c,m⟩:=h
  have g:=Za4.at (d.own.sat _ c.mem)
  have b:=Zc0 d c
  exact⟨_,_,run_endRound none g,true,O3,rfl,b.old,b.own,m⟩
 | ret =>
  obtain⟨O3,c,m⟩:=h
  have g:=Za4.at (d.own.sat _ c.mem)
  have b:=Zc0 d c
  exact⟨_,_,run_endRound (some .ret) g,false,O3,rfl,b.old,b.own,m⟩
 | exit E=>exact h.elim
 | goto t=>exact h.elim
 | panic ch=>exact h.elim
 | outgrown=>exact h.elim
theorem Zjd {Q:Exit->Fr->List It->Prop}{c:Nat}(h:Q (.exit c) fr O):WI F D P n wr (.exit c) Q fr O:=fun a _ b=>wpIn_exit ⟨rfl,fr,O,by rw[Zed b];exact b,h⟩
