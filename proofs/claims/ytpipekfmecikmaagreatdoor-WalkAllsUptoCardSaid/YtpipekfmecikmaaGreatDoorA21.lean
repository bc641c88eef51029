/- Parts of the proof. -/
import Derived.Test.YtpipekfmecikmaaGreatDoorA20
import Derived.Test.YtpipekfmecikmaaGreatDoorA15
set_option maxHeartbeats 0
set_option linter.all false
namespace Go.Proofs.YtpipekfmecikmaaGreatDoor
open Go Go.RowKit Go.Wk Tryz
attribute [local irreducible] W RL Does Zaq Zai retQ Calls Pu Stp RD Qy Ay Zaj
def pEnc (x:Int × ByteArray):List Value:=[.int .i64 x.1,.string x.2]
def pkV (x:Int × ByteArray):Value := .agg (pEnc x).toArray
instance:EqE prog 266 (Int × ByteArray) pEnc where
 h r s w:=by
  unfold pEnc
  simp[go_sem,Ze5]
  rcases r with⟨_,_⟩
  rcases s with⟨_,_⟩
  simp only[Zmx,Result.ok.injEq,and_true]
  rw[Bool.eq_iff_iff]
  simp
 g:=by kernel_rfl
theorem Zmr (k:Int × ByteArray)(w:World):∀ (l:List ((Int × ByteArray) × Int)) (i j:Nat),(Instr.findAsking 266 (pkV k) (cent pkV j l) i).run prog w = .ok (Zjp k l i) w
 | [],_,_=>rfl
 | x::l,i,j=>by
  have h:=EqE.h (P:=prog) (t:=266) (enc:=pEnc) k x.1 w
  rw[cent,Instr.findAsking,Zjp]
  simp only[pkV,Op.equal,Op.maxDepth]at h ⊢
  simp only[Sem.run_bind,h,Result.andThen_ok]
  by_cases a:k=x.1
  ·rw[dT_ a,if_pos a];rfl
  ·rw[dF_ a,if_neg a]
   have b:=Zmr k w l (i+1) (j+1)
   simp only[pkV]at b
   simpa using b
theorem Zta (b:Bool)(k:Int × ByteArray)(d:Nat)(w:World):(Instr.checkKey b (d+1+1) 266 (.agg (pEnc k).toArray)).run prog w = .ok () w:=by
 simp[Instr.checkKey,go_sem,pEnc]
instance:KeyT prog 266 (Int × ByteArray) pkV where
 ask k l w:=by
  cases l with
  | nil=>simp[Instr.findKey,go_sem,cent,Instr.findNow,Zjp]
  | cons x l =>
   have h:=Zmr k w (x::l) 0 0
   simp only[cent]at h ⊢
   simp[Instr.findKey,go_sem,Instr.findNow,Instr.sameNow,pkV]
   exact h
 chk b k w:=Zta b k 9998 w
 stay k w:=by simp[Instr.keyThatStays,Instr.sameBits,pkV,pEnc,Zgs]
def toM (l:List (ByteArray × Int)):List (ByteArray × Value):=l.map fun x=>(x.1,Value.int .i64 x.2)
theorem Zn0 (k:ByteArray):∀ l:List (ByteArray × Int),(mget (toM l) k).getD (.int .i64 0) = .int .i64 (cget k l)
 | []=>rfl
 | x::l=>by
  have a:=Zn0 k l
  unfold toM at a ⊢
  rw[List.map_cons,mget,cget]
  by_cases h:k=x.1
  ·rw[if_pos h,if_pos h];rfl
  ·rw[if_neg h,if_neg h];exact a
theorem ZnZ (k:ByteArray)(v:Int):∀ l:List (ByteArray × Int),mset (toM l) k (.int .i64 v)=toM (cput k v (cins k l))
 | []=>by simp[toM,mset,cins,cput]
 | x::l=>by
  have a:=ZnZ k v l
  unfold toM at a ⊢
  rw[List.map_cons,mset,cins]
  by_cases h:k=x.1
  ·rw[if_pos h,if_pos h,cput,if_pos h];rfl
  ·rw[if_neg h,if_neg h,cput,if_neg h,a];rfl
theorem Zfw {P:Program}{n:Nat}{wr:World}{fr:Fr}{O:List It}{ty:TypeId}{pos:String}{af:Array Edge}{a:Option Tmp}{g:Option (Nat × Bool)}{Kp:Value->List It->Prop}
  {t kt et b:Nat} {x c y:Operand} {m d:List (ByteArray × Value)} {k:ByteArray} {v:Value} {O':List It} [hM:MapT P t kt et] [StringT P kt] (i:ev fr x=some (.map (some b))) (e:ev fr c=some (.string k)) (j:ev fr y=some v) (f:mset m k v=d)
  (h:Upd O (.mp b m) (.mp b d) O') (l:Kp undef O'):Stp P n wr fr O ⟨a,.mapUpdate t x c y,ty,pos,af,g⟩ Kp:=Stp_mapUpdate i e j (f▸h) l
theorem Zex (rs:List DRule)(e:DEra):(ZaB rs e).length<=rs.length+1:=by
 unfold ZaB
 have:=Zez rs e
 split
 ·simp
 ·split
  ·rw[List.length_map];omega
  ·simp
theorem Zhf {rs:List DRule}{e:DEra}(b:∀ r∈rs,r.letter.size<=1000000000):∀ x∈ZaB rs e,x.2.size<=1000000000:=by
 intro x a
 unfold ZaB at a
 split at a
 ·simp only[List.mem_singleton]at a;subst a;exact Nat.zero_le _
 ·split at a
  ·obtain⟨r,h,rfl⟩:=List.mem_map.1 a
   exact b r (ZdD h)
  ·simp only[List.mem_singleton]at a;subst a;exact Nat.zero_le _
structure FwG where
 k:Nat
 lp:List ((Int × ByteArray) × Int)
 la:List (ByteArray × Int)
 sz:Int
 acc:List (Int × List UInt8) × List (List UInt8)
 t:Nat
theorem Zpr {G:Prop}(h:G:=by(first|(apply ZaG;rfl;rfl;omega;omega;(intro w' _ hO;exact(Zbc (hO.of (A := .row (.slice A5 S.length c5) 155 2 S.length (S.flatMap Za6)) cS_) hg1).1))|(apply Zch;rfl;(focus repeat' constructor);exact hgn;rfl)|(apply Zxv (kv:=pkV) (k:=(e.off+x.1,bz ab));rfl;rfl;(focus repeat' constructor);first|exact rfl|exact Znn _ _)|(apply Zg8;rfl;rfl;(focus repeat' constructor);first|exact Zn0 _ la|exact hl2)|(apply Zap;rfl;rfl;exact hb))):G:=h
theorem Zpi {G:Prop}(h:G:=by first|(apply Qy_y;rfl;exact Zpr)|exact QyA):G:=h
theorem Zu3 {G:Prop}(h:G:=by repeat (first|exact QF.nil|(apply QF.mk;rfl;rfl;decide +kernel;exact Zpi))):G:=h
theorem ZvV {G:Prop}(h:G:=by(first|(apply ZBl (kv:=pkV);rfl;(focus repeat' constructor))|(apply Zbl;rfl;rfl;exact b1))):G:=h
set_option maxHeartbeats 0 in
theorem ZuA (Ar Az Al As:Option Addr)(J K I cs:Nat)(a:DSource)(z:DZone)(Ae:Option Addr)(U:Nat)(w:World)(hL:LibW w)(hA:Zam w Ar Az Al As J K I cs a)(hE:RdSl w Ae U DEra.enc 13 z.eras)(hS:ZcH a)(hV:Zg4 a)(af:z.eras.length<=1000000)
  (hZ:∀ e∈z.eras,Zjm e) (hH:∀ e∈z.eras,∀ x∈ZaB a.rules e,Za1 e.off x.1=true) :
  Does prog 184 [srcV Ar Az Al As J K I cs a,.agg #[.string z.name,.slice Ae z.eras.length U]] w (fun v O=>v = .bool (ZeU a.rules z)/\O=[]):=by
 have hn:=hS.nr
 unfold ZeU
 obtain⟨R,Y⟩:∃ R,erGo a.rules z.eras ([],[])=R:=⟨_,rfl⟩
 rw[Y]
 refine Zaa func184 rfl rfl rfl rfl ?_
 repeat (first|refine walk ?_|(refine jn ?_;(try intro F);(first|(apply Zgy (t:=264) pkV;intro E)|(refine bx ?_;intro E));refine fin ?_))
 rename_i b1 b2 T
 generalize E=ba
 refine Zah [(2,.pointer (some ⟨b1,0,none⟩)),(5,.map (some T)),(6,.map (some ba)),(17,.slice Ae z.eras.length U),(18,.int .i64 z.eras.length)] [.blk b1 [.slice Ar a.rules.length J,.slice Az a.zones.length K,.slice Al a.links.length I,.slice As a.shifts.length cs] 174]
  (fun g:FwG=>[(7,.int .i64 g.sz),(19,.int .i64 g.k)]) (fun g=>[cmIt pkV T g.lp,.mp ba (toM g.la)]) (fun g=>g.k<=z.eras.length/\FewI g.lp g.la g.sz g.acc g.t/\g.t<=g.k*2000000/\erGo a.rules (z.eras.drop g.k) g.acc=R)
  (fun g=>z.eras.length - g.k) ⟨0,[],[],0,([],[]),0⟩ SFA SOA ⟨Nat.zero_le _,FewI.nil,Nat.le_refl _,Y⟩ ?_
 clear Y
 rintro⟨k,lp,la,sz,acc,t⟩ ⟨hk,hI,ht,hi⟩
 dsimp only at hk hI ht hi ⊢
 repeat (refine walk ?_)
 refine Zaf rfl (fun H=>?_) (fun H=>?_)
 ·simp only[decide_eq_true_eq,Int.ofNat_lt]at H
  obtain⟨hna,hca⟩:=hE.rd k _ (List.getElem?_eq_getElem H)
  have u:=List.getElem_mem H
  rw[Zag H,erGo]at hi
  generalize z.eras[k]=e at *
  have ac:=Zex a.rules e
  have M:=Zhf (e:=e) fun r hr=>(hS.rs r hr).2
  have W:=ZfC (e:=e) (fun r h=>hV.i64 r h) (hZ e u).save
  have N:=fun w' (Q:Bel w.heap.size w w')=>ZhV Ar Az Al As J K I cs a e w' (hA.up Q) hn
  have L:=hZ e u
  have X:=hH e u
  generalize ZaB a.rules e=S at *
  obtain⟨R2,s⟩:∃ R2,stGo e S acc=R2:=⟨_,rfl⟩
  rw[s]at hi
  simp only[DEra.enc]at N hca
  repeat (first|(apply RL_pu;rfl;exact PuI)|refine walk1 ?_|(refine jg ?_;(try intro F);(first|(apply Zad (h:=fun w' Q _=>N w' Q);rfl;rintro v O' ⟨A5,c5,rfl,rfl⟩)|(refine bx ?_;intro E));first|refine⟨_,EndsA,QFI,?_⟩|refine fin ?_))
  generalize E=b9
  refine Zah [(2,.pointer (some ⟨b1,0,none⟩)),(5,.map (some T)),(6,.map (some ba)),(9,.pointer (some ⟨b9,0,none⟩)),(17,.slice Ae z.eras.length U),(18,.int .i64 z.eras.length),(19,.int .i64 k),(25,.slice A5 S.length c5),(26,.int .i64 S.length)]
   [.blk b1 [.slice Ar a.rules.length J,.slice Az a.zones.length K,.slice Al a.links.length I,.slice As a.shifts.length cs] 174,.blk b9 [.int .i64 e.off,.int .i64 e.kind,.int .i64 e.save,.string e.set,.string e.format,.bool e.til.is,.int .i64 e.til.year,.int .i64 e.til.month,.int .i64 e.til.day.kind,.int .i64 e.til.day.week,.int .i64 e.til.day.day,.int .i64 e.til.at_.sec,.int .i64 e.til.at_.base] 75,.row (.slice A5 S.length c5) 155 2 S.length (S.flatMap Za6)]
   (fun g:FwG=>[(7,.int .i64 g.sz),(27,.int .i64 g.k)]) (fun g=>[cmIt pkV T g.lp,.mp ba (toM g.la)]) (fun g=>g.k<=S.length/\FewI g.lp g.la g.sz g.acc g.t/\g.t<=k*2000000+g.k/\stGo e (S.drop g.k) g.acc=R2)
   (fun g=>S.length - g.k) ⟨0,lp,la,sz,acc,t⟩ SFA SOA ⟨Nat.zero_le _,hI,Nat.le_trans ht (Nat.le_add_right _ _),s⟩ ?_
  clear s hI ht lp la sz acc t
  rintro⟨j,lp,la,sz,acc,t⟩ ⟨hj,hI,ht,hi2⟩
  dsimp only at hj hI ht hi2 ⊢
  repeat (refine walk ?_)
  refine Zaf rfl (fun c=>?_) (fun c=>?_)
  ·simp only[decide_eq_true_eq,Int.ofNat_lt]at c
   have hg1:=ZaD Za6.len S j _ 0 _ (List.getElem?_eq_getElem c) rfl
   have hgn:∀ i v,(Za6 S[j])[i]?=some v->(S.flatMap Za6)[j*2+i]?=some v:=fun i v hv=>ZaD Za6.len S j _ i v (List.getElem?_eq_getElem c) hv
   have D:=List.getElem_mem c
   rw[Zag c,stGo]at hi2
   generalize S[j]=x at *
   have f:=fun w' (Q:Bel w.heap.size w w')=>ZgU e.format x.2 e.off x.1 w' (hL.up Q) L.fmt (M x D) L.off (W x D)
   have hal:=ZnA e.format.data.toList e.off x.1 x.2.data.toList
   have y:=X x D
   unfold Za1 at y
   simp only[Bool.and_eq_true,decide_eq_true_eq]at y
   obtain⟨ag,ah⟩:=y
   generalize Zdx e.format.data.toList e.off x.1 x.2.data.toList=abr at *
   obtain⟨ab,er⟩:=abr
   dsimp only at hi2 hal
   replace f:∀ w',Bel w.heap.size w w'->Does prog 99 [.string e.format,.int .i64 e.off,.agg #[.int .i64 x.1,.string x.2]] w' (fun v O=>v = .tuple #[.string (bz ab),.int .i64 er]/\O=[]):=f
   simp only[Za6]at hgn hg1
   have ad:=hI.cp.get (e.off+x.1,bz ab)
   have ae:=hI.ca.get (bz ab)
   have Z:=Zul ab
   have aa:=hI.lim
   have m:=hI.step (e.off+x.1) ab hal
   have hl2:(mget (toM (cput (bz ab) (cget (bz ab) la+1) (cins (bz ab) la))) (bz ab)).getD (.int .i64 0) = .int .i64 (cget (bz ab) la+1):=(Zn0 _ _).trans (by rw[Znm _ _ _ (Zlr _ _)])
   by_cases d:cget (bz ab) la+1=1
   ·rw[if_pos d]at m
    have hb:decide (cget (bz ab) la+1=1)=true:=dT_ d
    repeat (first|(apply RL_pu;rfl;exact Zpr)|(refine js ?_;(first|(refine Zab f ?_)|(apply Zfw;rfl;rfl;rfl;exact ZnZ _ _ la;(focus repeat' constructor))|(refine bx ?_;intro E)))|(apply RD_Q;rfl;rfl;decide +kernel;rfl;rfl;exact Zpi)|refine walk1 ?_|(refine RD_Lw ?_;intro F;(first|(apply Zky (kv:=pkV) (k:=(e.off+x.1,bz ab)) (l:=lp);rfl;rfl;(focus repeat' constructor))|(apply Zkx (kv:=pkV) (k:=(e.off+x.1,bz ab)) (l:=lp);rfl;rfl;rfl;(focus repeat' constructor)));refine⟨_,EndsA,Zu3,?_⟩))
    exact⟨⟨j+1,cinc (e.off+x.1,bz ab) lp,cinc (bz ab) la,sz+(((bz ab).size:Int)+1),_,t+1⟩,OA,⟨OA,by dsimp only;rw[Z];exact m,OA,hi2⟩,SFA,SOA⟩
   ·rw[if_neg d]at m
    have hb:decide (cget (bz ab) la+1=1)=false:=dF_ d
    repeat (first|(apply RL_pu;rfl;exact Zpr)|(refine js ?_;(first|(refine Zab f ?_)|(apply Zfw;rfl;rfl;rfl;exact ZnZ _ _ la;(focus repeat' constructor))|(refine bx ?_;intro E)))|(apply RD_Q;rfl;rfl;decide +kernel;rfl;rfl;exact Zpi)|refine walk1 ?_|(refine RD_Lw ?_;intro F;(first|(apply Zky (kv:=pkV) (k:=(e.off+x.1,bz ab)) (l:=lp);rfl;rfl;(focus repeat' constructor))|(apply Zkx (kv:=pkV) (k:=(e.off+x.1,bz ab)) (l:=lp);rfl;rfl;rfl;(focus repeat' constructor)));refine⟨_,EndsA,Zu3,?_⟩))
    exact⟨⟨j+1,cinc (e.off+x.1,bz ab) lp,cinc (bz ab) la,sz,_,t+1⟩,OA,⟨OA,m,OA,hi2⟩,SFA,SOA⟩
  ·simp only[decide_eq_false_iff_not,Int.ofNat_lt]at c
   rw[List.drop_eq_nil_of_le (by omega),stGo]at hi2
   subst hi2
   repeat (refine walk ?_)
   exact⟨⟨k+1,lp,la,sz,acc,t⟩,OA,⟨OA,hI,OA,hi⟩,SFA,SOA⟩
 ·simp only[decide_eq_false_iff_not,Int.ofNat_lt]at H
  rw[List.drop_eq_nil_of_le (by omega),erGo]at hi
  subst hi
  rw[<- hI.few]
  by_cases q:(lp.length:Int)<=120
  ·have b1:decide ((lp.length:Int)<=120)=true:=dT_ q
   rw[b1]
   repeat (first|(apply RL_pu;rfl;exact ZvV)|refine walk1 ?_)
   exact rtA
  ·have b1:decide ((lp.length:Int)<=120)=false:=dF_ q
   rw[b1]
   repeat (first|(apply RL_pu;rfl;exact ZvV)|refine walk1 ?_)
   exact rtA
structure ZnG where
 k:Nat
 p:Int
theorem ZvZ {G:Prop}(h:G:=by(first|exact PuI|(apply Zap;rfl;rfl;exact hb))):G:=h
theorem ZvY {G:Prop}(h:G:=by(first|exact PuI|(apply Zap;rfl;rfl;exact hbk))):G:=h
theorem ZvX {G:Prop}(h:G:=by(first|exact ZvY|(apply Zal;rfl;rfl;exact hb2))):G:=h
set_option maxHeartbeats 0 in
theorem Zo7 (Ar Az Al As:Option Addr)(B r A cs:Nat)(a:DSource)(w:World)(hL:LibW w)(hG:Glob w)(T:Zam w Ar Az Al As B r A cs a)(I:ZcH a)(V:Zg4 a)(hZ:∀ z∈a.zones,∀ e∈z.eras,Zjm e) :
  Does prog 117 [srcV Ar Az Al As B r A cs a] w (fun v O=>v=ptV (Zbe a.rules a.zones 0)/\O=[]):=by
 have af:=I.nz
 obtain⟨D,q⟩:∃ D,Zbe a.rules a.zones 0=D:=⟨_,rfl⟩
 rw[q]
 refine Zaa func117 rfl rfl rfl rfl ?_
 repeat (first|(refine js ?_;(refine bx ?_;intro j))|refine walk ?_)
 rename_i M
 obtain⟨E,hb2⟩:∃ E,j=E:=⟨_,rfl⟩
 rw[hb2]
 clear hb2 j
 refine Zah [(1,.pointer (some ⟨M,0,none⟩)),(2,.pointer (some ⟨E,0,none⟩)),(13,.slice Az a.zones.length r),(14,.int .i64 a.zones.length)] [.blk E [.int .i64 0,.int .i64 0,.int .i64 0] 138,.blk M [.slice Ar a.rules.length B,.slice Az a.zones.length r,.slice Al a.links.length A,.slice As a.shifts.length cs] 174]
  (fun k:Nat=>[(15,.int .i64 k)]) (fun _=>[]) (fun k=>k<=a.zones.length/\Zbe a.rules (a.zones.drop k) k=D) (fun k=>a.zones.length - k) 0 SFA SOA ⟨Nat.zero_le _,q⟩ ?_
 clear q
 rintro i ⟨ae,c⟩
 repeat (first|(refine js ?_;(refine bx ?_;intro j))|refine walk ?_)
 refine Zaf rfl (fun F=>?_) (fun F=>?_)
 ·simp only[decide_eq_true_eq,Int.ofNat_lt]at F
  obtain⟨hna,ad,⟨Ae,H,C,rfl⟩,hca⟩:=T.z i _ (List.getElem?_eq_getElem F)
  have m:=List.getElem_mem F
  rw[Zag F,Zbe]at c
  generalize a.zones[i]=z at *
  have K:=(I.zs z m).2.1
  by_cases y:z.eras=[]
  ·rw[if_pos y]at c
   subst c
   have hb:decide ((z.eras.length:Int)=0)=true:=by rw[y];rfl
   simp only[ptV,plV,Zar.enc]
   repeat (first|(apply RL_pu;rfl;exact ZvZ)|(refine js ?_;(refine bx ?_;intro j))|refine walk1 ?_)
   exact rtC
  have hb:decide ((z.eras.length:Int)=0)=false:=dF_ (fun h=>y (List.eq_nil_of_length_eq_zero (by omega)))
  rw[if_neg y]at c
  obtain⟨U,x⟩:∃ U,Zcd a.rules z.eras i z.eras.length 0=U:=⟨_,rfl⟩
  rw[x]at c
  have u:U=none->∀ w',Bel w.heap.size w w'->Does prog 184 [srcV Ar Az Al As B r A cs a,.agg #[.string z.name,.slice Ae z.eras.length H]] w' (fun v O=>v = .bool (ZeU a.rules z)/\O=[]):=fun hn w' s =>
   ZuA Ar Az Al As B r A cs a z Ae H w' (hL.up s) (T.up s) (C.up s) I V K (fun e he=>hZ z m e he) (Zkb (x.trans hn))
  generalize ZeU a.rules z=fw at *
  repeat (first|(apply RL_pu;rfl;exact ZvZ)|(refine js ?_;(refine bx ?_;intro j))|refine walk1 ?_)
  rename_i Z
  obtain⟨N,J⟩:∃ N,j=N:=⟨_,rfl⟩
  rw[J]
  clear J j
  refine Zah [(1,.pointer (some ⟨M,0,none⟩)),(2,.pointer (some ⟨E,0,none⟩)),(4,.int .i64 i),(5,.pointer (some ⟨Z,0,none⟩)),(6,.pointer (some ⟨N,0,none⟩)),(13,.slice Az a.zones.length r),(14,.int .i64 a.zones.length),(15,.int .i64 i),(28,.slice Ae z.eras.length H),(29,.int .i64 z.eras.length)] [.blk Z [.string z.name,.slice Ae z.eras.length H] 71,.blk E [.int .i64 0,.int .i64 0,.int .i64 0] 138,.blk M [.slice Ar a.rules.length B,.slice Az a.zones.length r,.slice Al a.links.length A,.slice As a.shifts.length cs] 174]
   (fun g:ZnG=>[(30,.int .i64 g.k)]) (fun g=>[.blk N [.int .i64 2,.int .i64 i,.int .i64 g.p] 138]) (fun g=>g.k<=z.eras.length/\Zcd a.rules z.eras i (z.eras.length - g.k) g.k=U) (fun g=>z.eras.length - g.k) ⟨0,0⟩ SFA SOA ⟨Nat.zero_le _,x⟩ ?_
  clear x
  rintro⟨k,p⟩ ⟨hkl,hi2⟩
  dsimp only at hkl hi2 ⊢
  repeat (first|(refine js ?_;(refine bx ?_;intro j))|refine walk ?_)
  refine Zaf rfl (fun d=>?_) (fun d=>?_)
  ·simp only[decide_eq_true_eq,Int.ofNat_lt]at d
   clear hna hca
   obtain⟨hna,hca⟩:=C.rd k _ (List.getElem?_eq_getElem d)
   have W:=List.getElem_mem d
   have X:z.eras.getD k dE0=z.eras[k]:=by rw[List.getD_eq_getElem?_getD,List.getElem?_eq_getElem d];rfl
   obtain⟨f,hf⟩:∃ f,z.eras.length - k=f+1:=⟨z.eras.length - k - 1,by omega⟩
   rw[hf,Zcd,X]at hi2
   generalize z.eras[k]=e at *
   have hbk:decide ((k:Int)=0)=decide (k=0):=by rw[decide_eq_decide];omega
   generalize decide (k=0)=fst at *
   have t:=fun w' (s:Bel w.heap.size w w')=>Ztz Ar Az Al As B r A cs a e fst w' (hL.up s) (T.up s) I V (hZ z m e W)
   have L:=fun w' (s:Bel w.heap.size w w')=>ZtA Ar Az Al As B r A cs a Ae H z.eras k w' (hG.up s) (T.up s) I V (C.up s) K d
   generalize Zdq a.rules e fst=ec at *
   generalize Zc9 a.rules z.eras k=nc at *
   obtain⟨ag,aa,ab,set,Q,⟨is,ac,Y,⟨dk,dw,dd⟩,⟨us,ub⟩⟩⟩:=e
   simp only[DEra.enc]at t hca
   by_cases R:ec=0
   ·rw[if_neg (fun h=>h R)]at hi2
    subst R
    by_cases S:nc=0
    ·rw[if_neg (fun h=>h S)]at hi2
     subst S
     repeat (first|(apply RL_pu;rfl;exact ZvY)|(refine js ?_;(first|(refine Zab t ?_)|(refine Zab L ?_)|(refine bx ?_;intro j)))|refine walk1 ?_)
     exact⟨⟨k+1,k⟩,OA,⟨OA,by dsimp only;rw[show z.eras.length - (k+1)=f by omega];exact hi2⟩,SFA,SOA⟩
    ·rw[if_pos S]at hi2
     subst hi2
     dsimp only at c
     subst c
     have hb2:(!decide (nc=0))=true:=by rw[dF_ S];rfl
     simp only[ptV,plV,Zar.enc]
     repeat (first|(apply RL_pu;rfl;exact ZvX)|(refine js ?_;(first|(refine Zab t ?_)|(refine Zab L ?_)|(refine bx ?_;intro j)))|refine walk1 ?_)
     exact rtC
   ·rw[if_pos R]at hi2
    subst hi2
    dsimp only at c
    subst c
    have hb2:(!decide (ec=0))=true:=by rw[dF_ R];rfl
    simp only[ptV,plV,Zar.enc]
    repeat (first|(apply RL_pu;rfl;exact ZvX)|(refine js ?_;(first|(refine Zab t ?_)|(refine bx ?_;intro j)))|refine walk1 ?_)
    exact rtC
  ·simp only[decide_eq_false_iff_not,Int.ofNat_lt]at d
   rw[show z.eras.length - k=0 by omega,Zcd]at hi2
   subst hi2
   replace u:=u rfl
   dsimp only at c
   cases fw with
   | false =>
    rw[if_pos rfl]at c
    subst c
    simp only[ptV,plV,Zar.enc]
    repeat (first|(refine js ?_;((refine Zab u ?_)))|refine walk ?_)
    exact rtC
   | true =>
    rw[if_neg (by decide)]at c
    repeat (first|(refine js ?_;((refine Zab u ?_)))|refine walk ?_)
    exact⟨i+1,OA,⟨OA,c⟩,SFA,SOA⟩
 ·simp only[decide_eq_false_iff_not,Int.ofNat_lt]at F
  rw[List.drop_eq_nil_of_le (by omega),Zbe]at c
  subst c
  repeat (first|(refine js ?_;(refine bx ?_;intro j))|refine walk ?_)
  exact rtC
attribute [local irreducible] RW
theorem ZhY {s:DSource}{p:Zar}{e:Int}(h:Zdi s=some (p,e)):e≠0:=by
 unfold Zdi at h
 repeat' split at h
 all_goals first|(simp only[Option.some.injEq,Prod.mk.injEq]at h;omega)|cases h
theorem Zn8 {rs:List DRule}{x:ByteArray}{i:Nat}{e:Int}(h:Zca rs x=some (i,e)):e≠0:=by
 unfold Zca at h
 split at h
 ·simp only[Option.some.injEq,Prod.mk.injEq]at h;omega
 ·split at h
  ·rename_i a
   simp only[Option.some.injEq]at h
   rw[h]at a
   exact a
  ·split at h
   ·simp only[Option.some.injEq,Prod.mk.injEq]at h;omega
   ·cases h
theorem ZfW (rs:List DRule):∀ (l:List ByteArray) {p:Zar} {e:Int},ZcJ rs l=some (p,e)->e≠0
 | [],_,_,h=>by cases h
 | x::l,p,e,h=>by
  rw[ZcJ]at h
  split at h
  ·rename_i i b a
   simp only[Option.some.injEq,Prod.mk.injEq]at h
   rw[<- h.2]
   exact Zn8 a
  ·exact ZfW rs l h
theorem ZdZ (s:DSource):∀ (l a:List ByteArray) (i:Nat) {p:Zar} {e:Int},Za0 s l a i=some (p,e)->e≠0
 | [],_,_,_,_,h=>by cases h
 | x::l,a,i,p,e,h=>by
  rw[Za0]at h
  split at h
  ·simp only[Option.some.injEq,Prod.mk.injEq]at h;omega
  ·split at h
   ·simp only[Option.some.injEq,Prod.mk.injEq]at h;omega
   ·split at h
    ·simp only[Option.some.injEq,Prod.mk.injEq]at h;omega
    ·exact ZdZ s l _ _ h
theorem Zho (s:DSource):∀ (l:List DLink) (i:Nat) {p:Zar} {e:Int},Zbp s l i=some (p,e)->e≠0
 | [],_,_,_,h=>by cases h
 | x::l,i,p,e,h=>by
  rw[Zbp]at h
  repeat' split at h
  all_goals first|(simp only[Option.some.injEq,Prod.mk.injEq]at h;omega)|exact Zho s l _ h
theorem Zhn (s:DSource):∀ (l:List DLink) (i:Nat) {p:Zar} {e:Int},Zbo s l i=some (p,e)->e≠0
 | [],_,_,_,h=>by cases h
 | x::l,i,p,e,h=>by
  rw[Zbo]at h
  split at h
  ·simp only[Option.some.injEq,Prod.mk.injEq]at h;omega
  ·exact Zhn s l _ h
theorem Zip {s:DSource}{p:Zar}{e:Int}(h:Zdm s=some (p,e)):e≠0:=by
 unfold Zdm at h
 cases h1:Za8 s s.zones 0 with
 | some x=>rw[h1]at h;simp only[Option.some_or,Option.some.injEq]at h;subst h;exact Zes s _ _ _ _ h1
 | none =>
  rw[h1,Option.none_or]at h
  cases h2:Zbp s s.links 0 with
  | some x=>rw[h2]at h;simp only[Option.some_or,Option.some.injEq]at h;subst h;exact Zho s _ _ h2
  | none =>
   rw[h2,Option.none_or]at h
   exact Zhn s _ _ h
theorem Zne (rs:List DRule)(l:List DEra)(i:Nat):∀ (f k:Nat) {p:Zar} {e:Int},Zcd rs l i f k=some (p,e)->e≠0
 | 0,_,_,_,h=>by cases h
 | f+1,k,p,e,h=>by
  rw[Zcd]at h
  split at h
  ·rename_i a;simp only[Option.some.injEq,Prod.mk.injEq]at h;rw[<- h.2];exact a
  ·split at h
   ·rename_i a;simp only[Option.some.injEq,Prod.mk.injEq]at h;rw[<- h.2];exact a
   ·exact Zne rs l i f _ h
theorem ZgD (rs:List DRule):∀ (l:List DZone) (i:Nat) {p:Zar} {e:Int},Zbe rs l i=some (p,e)->e≠0
 | [],_,_,_,h=>by cases h
 | z::l,i,p,e,h=>by
  rw[Zbe]at h
  split at h
  ·simp only[Option.some.injEq,Prod.mk.injEq]at h;omega
  ·split at h
   ·rename_i x a
    simp only[Option.some.injEq]at h
    subst h
    exact Zne rs _ _ _ _ a
   ·split at h
    ·simp only[Option.some.injEq,Prod.mk.injEq]at h;omega
    ·exact ZgD rs l _ h
instance:ZeroT prog 175 [.nilFunc]:=⟨by kernel_rfl⟩
theorem Zjl {G:Prop}(h:G:=by(first|(apply Zji;rfl;(focus repeat' constructor);rfl)|(apply Zal;rfl;rfl;exact hb))):G:=h
theorem Zjk {G:Prop}(h:G:=by(apply Zji;rfl;(focus repeat' constructor);rfl)):G:=h
set_option maxHeartbeats 0 in
theorem Zxm (Ar Az Al As:Option Addr)(d g c cs:Nat)(a:DSource)(w:World)(D:LibW w)(C:Glob w)(m:Zam w Ar Az Al As d g c cs a)(q:ZcH a)(E:SavI a)(F:∀ z∈a.zones,∀ e∈z.eras,Zjm e) :
  Does prog 75 [srcV Ar Az Al As d g c cs a] w (fun v O=>v=ptV (accD a)/\O=[]):=by
 have r:∀ w',Bel w.heap.size w w'->Does prog 113 ([srcV Ar Az Al As d g c cs a]++[]++[]) w' (fun v O=>v=ptV (Zdi a)/\O=[]):=fun w' b=>Zrb Ar Az Al As d g c cs a w' (m.up b) q.nz
 have s:∀ w',Bel w.heap.size w w'->Does prog 114 ([srcV Ar Az Al As d g c cs a]++[]++[]) w' (fun v O=>v=ptV (Zfm a)/\O=[]):=fun w' b=>ZrE Ar Az Al As d g c cs a w' (C.up b) (m.up b) q E
 have t:∀ w',Bel w.heap.size w w'->Does prog 115 ([srcV Ar Az Al As d g c cs a]++[]++[]) w' (fun v O=>v=ptV (Za0 a a.shifts [] 0)/\O=[]):=fun w' b=>ZmJ Ar Az Al As d g c cs a w' (m.up b) q
 have u:∀ w',Bel w.heap.size w w'->Does prog 116 ([srcV Ar Az Al As d g c cs a]++[]++[]) w' (fun v O=>v=ptV (Zdm a)/\O=[]):=fun w' b=>Zoz Ar Az Al As d g c cs a w' (m.up b) q
 have j:Zfm a=none->∀ w',Bel w.heap.size w w'->Does prog 117 ([srcV Ar Az Al As d g c cs a]++[]++[]) w' (fun v O=>v=ptV (Zbe a.rules a.zones 0)/\O=[]):=fun H w' b=>Zo7 Ar Az Al As d g c cs a w' (D.up b) (C.up b) (m.up b) q (Zl7 H) F
 have I:=fun{p e} => @ZhY a p e
 have J:∀ {p e},Zfm a=some (p,e)->e≠0:=fun h=>ZfW a.rules _ h
 have K:∀ {p e},Za0 a a.shifts [] 0=some (p,e)->e≠0:=fun h=>ZdZ a _ _ _ h
 have L:=fun{p e} => @Zip a p e
 have M:∀ {p e},Zbe a.rules a.zones 0=some (p,e)->e≠0:=fun h=>ZgD a.rules _ _ h
 unfold accD
 generalize Zdi a=o1 at *
 generalize Zfm a=o2 at *
 generalize Za0 a a.shifts [] 0=o3 at *
 generalize Zdm a=o4 at *
 generalize Zbe a.rules a.zones 0=o5 at *
 refine Zaa func75 rfl rfl rfl rfl ?_
 repeat (first|(refine js ?_;(refine bx ?_;intro i))|refine ZlY ?_)
 refine W_block (Zqu 6 (Zeh ?_))
 cases o1 with
 | some x =>
  obtain⟨⟨y,A,B⟩,e⟩:=x
  have hb:(!decide (e=0))=true:=by rw[dF_ (I rfl)];rfl
  simp only[Option.some_or,ptV,plV,Zar.enc]at r ⊢
  repeat (first|(apply RL_pu;rfl;exact Zjl)|(refine js ?_;(first|(refine ZdT (fun w' b _=>r w' b) ?_)|(refine bx ?_;intro i)))|refine walk1 ?_)
  exact rtC
 | none =>
 simp only[ptV,plV,Zar.enc]at r
 rw[Option.none_or]
 repeat (first|(apply RL_pu;rfl;exact Zjk)|(refine js ?_;(first|(refine ZdT (fun w' b _=>r w' b) ?_)|(refine bx ?_;intro i)))|refine walk1 ?_)
 refine Zeh ?_
 cases o2 with
 | some x =>
  obtain⟨⟨y,A,B⟩,e⟩:=x
  have hb:(!decide (e=0))=true:=by rw[dF_ (J rfl)];rfl
  simp only[Option.some_or,ptV,plV,Zar.enc]at s ⊢
  repeat (first|(apply RL_pu;rfl;exact Zjl)|(refine js ?_;(first|(refine ZdT (fun w' b _=>s w' b) ?_)|(refine bx ?_;intro i)))|refine walk1 ?_)
  exact rtC
 | none =>
 replace j:=j rfl
 simp only[ptV,plV,Zar.enc]at s
 rw[Option.none_or]
 repeat (first|(apply RL_pu;rfl;exact Zjk)|(refine js ?_;(first|(refine ZdT (fun w' b _=>s w' b) ?_)|(refine bx ?_;intro i)))|refine walk1 ?_)
 refine Zeh ?_
 cases o3 with
 | some x =>
  obtain⟨⟨y,A,B⟩,e⟩:=x
  have hb:(!decide (e=0))=true:=by rw[dF_ (K rfl)];rfl
  simp only[Option.some_or,ptV,plV,Zar.enc]at t ⊢
  repeat (first|(apply RL_pu;rfl;exact Zjl)|(refine js ?_;(first|(refine ZdT (fun w' b _=>t w' b) ?_)|(refine bx ?_;intro i)))|refine walk1 ?_)
  exact rtC
 | none =>
 simp only[ptV,plV,Zar.enc]at t
 rw[Option.none_or]
 repeat (first|(apply RL_pu;rfl;exact Zjk)|(refine js ?_;(first|(refine ZdT (fun w' b _=>t w' b) ?_)|(refine bx ?_;intro i)))|refine walk1 ?_)
 refine Zeh ?_
 cases o4 with
 | some x =>
  obtain⟨⟨y,A,B⟩,e⟩:=x
  have hb:(!decide (e=0))=true:=by rw[dF_ (L rfl)];rfl
  simp only[Option.some_or,ptV,plV,Zar.enc]at u ⊢
  repeat (first|(apply RL_pu;rfl;exact Zjl)|(refine js ?_;(first|(refine ZdT (fun w' b _=>u w' b) ?_)|(refine bx ?_;intro i)))|refine walk1 ?_)
  exact rtC
 | none =>
 simp only[ptV,plV,Zar.enc]at u
 rw[Option.none_or]
 repeat (first|(apply RL_pu;rfl;exact Zjk)|(refine js ?_;(first|(refine ZdT (fun w' b _=>u w' b) ?_)|(refine bx ?_;intro i)))|refine walk1 ?_)
 refine Zeh ?_
 cases o5 with
 | some x =>
  obtain⟨⟨y,A,B⟩,e⟩:=x
  have hb:(!decide (e=0))=true:=by rw[dF_ (M rfl)];rfl
  simp only[ptV,plV,Zar.enc]at j ⊢
  repeat (first|(apply RL_pu;rfl;exact Zjl)|(refine js ?_;(first|(refine ZdT (fun w' b _=>j w' b) ?_)|(refine bx ?_;intro i)))|refine walk1 ?_)
  exact rtC
 | none =>
 simp only[ptV,plV,Zar.enc]at j ⊢
 repeat (first|(apply RL_pu;rfl;exact Zjk)|(refine js ?_;(first|(refine ZdT (fun w' b _=>j w' b) ?_)|(refine bx ?_;intro i)))|refine walk1 ?_)
 refine Zeh ?_
 repeat (refine walk ?_)
 exact rtC
end Go.Proofs.YtpipekfmecikmaaGreatDoor
namespace Go.Proofs.YtpipekfmecikmaaGreatDoor
open Go Go.RowKit Go.Wk Tryz
attribute [local irreducible] W RL Does Zaq Zai retQ Calls Pu Stp RD Qy Ay Zaj
theorem ZuD {s:DSource}{p:Zar}{e:Int}(h:accD s=some (p,e)):e≠0:=by
 unfold accD at h
 cases h1:Zdi s with
 | some x=>rw[h1]at h;simp only[Option.some_or,Option.some.injEq]at h;subst h;exact ZhY h1
 | none =>
  rw[h1,Option.none_or]at h
  cases h2:Zfm s with
  | some x=>rw[h2]at h;simp only[Option.some_or,Option.some.injEq]at h;subst h;exact ZfW _ _ h2
  | none =>
   rw[h2,Option.none_or]at h
   cases h3:Za0 s s.shifts [] 0 with
   | some x=>rw[h3]at h;simp only[Option.some_or,Option.some.injEq]at h;subst h;exact ZdZ _ _ _ _ h3
   | none =>
    rw[h3,Option.none_or]at h
    cases h4:Zdm s with
    | some x=>rw[h4]at h;simp only[Option.some_or,Option.some.injEq]at h;subst h;exact Zip h4
    | none =>
     rw[h4,Option.none_or]at h
     exact ZgD _ _ _ h
structure Zdc (w:World)(Ar Az Al As:Option Addr)(cr cz cl cs:Nat)(a:DSource):Prop where
 L:LibW w
 G:Glob w
 A:Zam w Ar Az Al As cr cz cl cs a
 S:ZcH a
 V:SavI a
 Z:∀ z∈a.zones,∀ e∈z.eras,Zjm e
theorem Zdc.up {w w':World}{Ar Az Al As:Option Addr}{d e c cs:Nat}{a:DSource}(h:Zdc w Ar Az Al As d e c cs a)(b:Bel w.heap.size w w'):Zdc w' Ar Az Al As d e c cs a :=
 ⟨h.L.up b,h.G.up b,h.A.up b,h.S,h.V,h.Z⟩
theorem accS {w:World}{Ar Az Al As:Option Addr}{c d b cs:Nat}{a:DSource}(h:Zdc w Ar Az Al As c d b cs a):Does prog 75 [srcV Ar Az Al As c d b cs a] w (fun v O=>v=ptV (accD a)/\O=[]) :=
 Zxm Ar Az Al As c d b cs a w h.L h.G h.A h.S h.V h.Z
end Go.Proofs.YtpipekfmecikmaaGreatDoor
namespace Go.Proofs.YtpipekfmecikmaaGreatDoor
open Go Go.RowKit Go.Wk
def ZuE (e:DEra)(save:Int)(letter:ByteArray):ByteArray:=⟨(Zdx e.format.data.toList e.off save letter.data.toList).1.toArray⟩
attribute [local irreducible] W RL Does Zaq Zai retQ Calls Pu Stp RD Qy Ay Zaj
def ZaU (rs:List DRule)(e:DEra)(t:Int):Int × ByteArray:=if e.kind=0 then (0,ByteArray.empty) else if e.kind=1 then (e.save,ByteArray.empty) else atS (ofB rs e.set) e.off t
structure Zak where
 off:Int
 dst:Bool
 abbr:ByteArray
deriving DecidableEq
def Zak.enc (x:Zak):List Value:=[.int .i64 x.off,.bool x.dst,.string x.abbr]
def ZeM (e:DEra)(x:Int × ByteArray):Zak:=⟨e.off+x.1,!decide (x.1=0),ZuE e x.1 x.2⟩
def abE (e:DEra)(x:Int × ByteArray):Int:=(Zdx e.format.data.toList e.off x.1 x.2.data.toList).2
structure LcOk (rs:List DRule)(e:DEra):Prop where
 k:0<=e.kind/\e.kind<=2
 o : -1000000000<=e.off/\e.off<=1000000000
 s : -1000000000<=e.save/\e.save<=1000000000
 r:e.kind=2->RsSm (ofB rs e.set)
 f:e.format.size<=1000000000
end Go.Proofs.YtpipekfmecikmaaGreatDoor
namespace Go.Proofs.YtpipekfmecikmaaGreatDoor
open Go Go.RowKit Go.Wk
theorem ZBE (rs:List DRule)(t:Int)(c:t<9223372036854775807):∀ (l:List DEra) (a:Int) (i:Nat) (r:List ZaE),spGo rs l a i=some r->l≠[]->a<=t ->
  ∃ k x,k<l.length/\r[k]?=some x/\x.era=(i:Int)+(k:Nat)/\ZcC t r i=(i:Int)+(k:Nat)/\x.start<=t/\t<x.fin
 | [],_,_,_,_,h,_=>absurd rfl h
 | [e],a,i,r,h,_,hs=>by
  simp only[spGo,Option.some.injEq]at h
  subst h
  refine⟨0,_,Nat.zero_lt_one,rfl,by simp,?_,hs,c⟩
  rw[ZcC,if_pos (by unfold spIn;rw[dT_ hs,dT_ c];rfl)]
  simp
 | e::f::l,a,i,r,h,_,hs=>by
  rw[spGo]at h
  by_cases d:endT e (ruEr rs e)<=a
  ·rw[if_pos d]at h;cases h
  rw[if_neg d]at h
  obtain⟨m,j,rfl⟩:=Option.map_eq_some_iff.1 h
  by_cases b:t<endT e (ruEr rs e)
  ·refine⟨0,_,by simp,rfl,by simp,?_,hs,b⟩
   rw[ZcC,if_pos (by unfold spIn;rw[dT_ hs,dT_ b];rfl)]
   simp
  ·obtain⟨k,x,p,a2,a3,a4,a5,g⟩:=ZBE rs t c (f::l) _ (i+1) m j (by simp) (Int.not_lt.1 b)
   refine⟨k+1,x,by rw[List.length_cons];omega,a2,by omega,?_,a5,g⟩
   rw[ZcC,if_neg (by unfold spIn;dsimp only;rw[dF_ b,Bool.and_false];decide),a4]
   omega
theorem ZkQ (rs:List DRule):∀ (l:List DEra) (a:Int) (i:Nat) (r:List ZaE),spGo rs l a i=some r->∀ x∈r,a<=x.start
 | [],_,_,_,h,x,hx=>by
  simp only[spGo,Option.some.injEq]at h
  subst h
  cases hx
 | [e],a,i,r,h,x,hx=>by
  simp only[spGo,Option.some.injEq]at h
  subst h
  rw[List.mem_singleton.1 hx]
  exact Int.le_refl _
 | e::f::l,a,i,r,h,x,hx=>by
  rw[spGo]at h
  by_cases b:endT e (ruEr rs e)<=a
  ·rw[if_pos b]at h;cases h
  rw[if_neg b]at h
  obtain⟨d,c,rfl⟩:=Option.map_eq_some_iff.1 h
  rcases List.mem_cons.1 hx with rfl|hx
  ·exact Int.le_refl _
  ·have:=ZkQ rs (f::l) _ (i+1) d c x hx
   omega
theorem ZsE (rs:List DRule)(t:Int):∀ (l:List DEra) (a:Int) (i:Nat) (r:List ZaE),spGo rs l a i=some r->∀ (k:Nat) (x:ZaE),r[k]?=some x->x.start<=t->t<x.fin->ZcC t r i=(i:Int)+(k:Nat)
 | [],_,_,_,h,k,x,hx,_,_=>by
  simp only[spGo,Option.some.injEq]at h
  subst h
  simp at hx
 | [e],a,i,r,h,k,x,hx,h1,h2=>by
  simp only[spGo,Option.some.injEq]at h
  subst h
  rcases k with _|k
  ·simp only[List.getElem?_cons_zero,Option.some.injEq]at hx
   subst hx
   rw[ZcC,if_pos (by unfold spIn;rw[dT_ h1,dT_ h2];rfl)]
   simp
  ·simp at hx
 | e::f::l,a,i,r,h,k,x,hx,h1,h2=>by
  rw[spGo]at h
  by_cases c:endT e (ruEr rs e)<=a
  ·rw[if_pos c]at h;cases h
  rw[if_neg c]at h
  obtain⟨d,b,rfl⟩:=Option.map_eq_some_iff.1 h
  rcases k with _|k
  ·simp only[List.getElem?_cons_zero,Option.some.injEq]at hx
   subst hx
   rw[ZcC,if_pos (by unfold spIn;rw[dT_ h1,dT_ h2];rfl)]
   simp
  ·simp only[List.getElem?_cons_succ]at hx
   have g:=ZkQ rs (f::l) _ (i+1) d b x (List.mem_of_getElem? hx)
   rw[ZcC,if_neg (by unfold spIn;dsimp only;rw[dF_ (show ¬ t<endT e (ruEr rs e) by omega),Bool.and_false];decide),ZsE rs t (f::l) _ (i+1) d b k x hx h1 h2]
   omega
theorem ZpT (rs:List DRule):∀ (l:List DEra) (a:Int) (i:Nat) (r:List ZaE),spGo rs l a i=some r->r.length=l.length
 | [],_,_,_,h=>by
  simp only[spGo,Option.some.injEq]at h
  subst h
  rfl
 | [e],a,i,r,h=>by
  simp only[spGo,Option.some.injEq]at h
  subst h
  rfl
 | e::f::l,a,i,r,h=>by
  rw[spGo]at h
  by_cases b:endT e (ruEr rs e)<=a
  ·rw[if_pos b]at h;cases h
  rw[if_neg b]at h
  obtain⟨d,c,rfl⟩:=Option.map_eq_some_iff.1 h
  rw[List.length_cons,ZpT rs (f::l) _ (i+1) d c];rfl
theorem Zl4 (rs:List DRule):∀ (l:List DEra) (c:Int) (i:Nat),(∀ e,l[0]?=some e->1<l.length->c<endT e (ruEr rs e)) ->
  (∀ k e f,l[k]?=some e->l[k+1]?=some f->k+2<l.length->endT e (ruEr rs e)<endT f (ruEr rs f))->∃ r,spGo rs l c i=some r
 | [],_,_,_,_=>⟨_,rfl⟩
 | [e],_,_,_,_=>⟨_,rfl⟩
 | e::f::l,c,i,h1,h2=>by
  have j:=h1 e rfl (by simp)
  obtain⟨r,d⟩:=Zl4 rs (f::l) (endT e (ruEr rs e)) (i+1) (fun g a b=>by
   cases a
   exact h2 0 e f rfl rfl (by simp only[List.length_cons]at b ⊢;omega)) (fun k g u a h b=>h2 (k+1) g u a h (by simp only[List.length_cons]at b ⊢;omega))
  exact⟨_,by rw[spGo,if_neg (by omega),d];rfl⟩
def Zb9 (rs:List DRule)(l:List DEra)(t:Int):Nat:=match Zey rs l with
 | some r=>(ZcC t r 0).toNat
 | none=>0
theorem ZfD {rs:List DRule}{l:List DEra}{r:List ZaE}(h:Zey rs l=some r)(f:l≠[]){t:Int}(d : -9223372036854775808<=t)(e:t<9223372036854775807) :
  ∃ x,Zb9 rs l t<l.length/\r[Zb9 rs l t]?=some x/\Zdh r t=(x,true)/\x.era=(Zb9 rs l t:Nat)/\x.start<=t/\t<x.fin:=by
 obtain⟨k,x,b,a2,a3,a4,a5,c⟩:=ZBE rs t e l _ 0 r h f d
 have a:Zb9 rs l t=k:=by
  unfold Zb9
  rw[h]
  dsimp only
  rw[a4]
  simp
 refine⟨x,by rw[a];exact b,by rw[a];exact a2,?_,by rw[a,a3];simp,a5,c⟩
 unfold Zdh
 rw[a4,if_neg (by omega),List.getD_eq_getElem?_getD,show(((0:Nat):Int)+(k:Nat)).toNat=k by omega,a2]
 rfl
theorem ZrR {rs:List DRule}{l:List DEra}{r:List ZaE}(h:Zey rs l=some r){k:Nat}{x:ZaE}(c:r[k]?=some x){t:Int}(a:x.start<=t)(b:t<x.fin):Zb9 rs l t=k:=by
 unfold Zb9
 rw[h]
 dsimp only
 rw[ZsE rs t l _ 0 r h k x c a b]
 simp
def Zbw (rs:List DRule)(l:List DEra)(t:Int):Zak:=ZeM (l.getD (Zb9 rs l t) dE0) (ZaU rs (l.getD (Zb9 rs l t) dE0) t)
section
variable {P:Int × ByteArray->Prop}{l:List DRule}
theorem Zqp (a:P (0,ByteArray.empty))(b:∀ r∈l,P (r.save,r.letter))(e:Zac):P (behS l e):=by
 unfold behS ruE
 rw[List.getD_eq_getElem?_getD]
 cases hx:l[e.rule.toNat]? with
 | none=>exact a
 | some r=>exact b r (List.mem_of_getElem? hx)
theorem ZxZ (a:P (0,ByteArray.empty))(b:∀ r∈l,P (r.save,r.letter)):P (iniS l):=by
 unfold iniS
 cases fstD l true 0 with
 | none=>exact a
 | some e =>
  dsimp only
  cases fstD l false (ruE l e).save with
  | none=>exact Zqp a b e
  | some o=>exact Zqp a b o
theorem ZB6 (a:P (0,ByteArray.empty))(b:∀ r∈l,P (r.save,r.letter))(n:Int):P (befS l n):=by
 unfold befS
 cases befD l n with
 | none=>exact ZxZ a b
 | some e=>exact Zqp a b e
theorem Zx5 (b:P (0,ByteArray.empty))(c:∀ r∈l,P (r.save,r.letter))(a t:Int):∀ (k:Nat) (n:Int),P (atGo l a t k n)
 | 0,n=>ZB6 b c n
 | k+1,n=>by
  rw[atGo]
  cases befD l n with
  | none=>exact ZxZ b c
  | some e =>
   dsimp only
   split
   ·exact Zqp b c e
   ·exact Zx5 b c a t k _
end
theorem ZpR {P:Int × ByteArray->Prop}{rs:List DRule}{e:DEra}(a:P (0,ByteArray.empty))(b:e.kind=1->P (e.save,ByteArray.empty))(c:e.kind≠0->e.kind≠1->∀ r∈ofB rs e.set,P (r.save,r.letter))(t:Int):P (ZaU rs e t):=by
 unfold ZaU
 split
 ·exact a
 ·split
  ·exact b ‹_›
  ·exact Zx5 a (c ‹_› ‹_›) _ _ _ _
theorem Zld {n:Int}(h : -604799<=n/\n<=604799):ZgR n=true:=by unfold ZgR;simp;exact h
theorem ZgZ (least nominal:Int)(r:DRule)(i:Int):∀ (k:Nat) (y:Int) (e:Zac),beIn least nominal r i y k=some e->∃ b,onR least r i b=some e/\e.nominal<nominal
 | 0,_,_,h=>by cases h
 | k+1,y,e,h=>by
  rw[beIn]at h
  cases he:onR least r i y with
  | none=>rw[he]at h;exact ZgZ least nominal r i k (y - 1) e h
  | some e' =>
   rw[he]at h
   dsimp only at h
   by_cases a:e'.nominal<nominal
   ·rw[if_pos a]at h
    cases h
    exact⟨y,he,a⟩
   ·rw[if_neg a]at h
    exact ZgZ least nominal r i k (y - 1) e h
theorem Zi5 (least nominal:Int)(r:DRule)(i:Int):∀ (k:Nat) (y:Int) (q:Nat) (e:Zac),q<k->onR least r i (y - q)=some e->e.nominal<nominal->∃ a,beIn least nominal r i y k=some a/\e.nominal<=a.nominal
 | 0,_,_,_,h,_,_=>absurd h (by omega)
 | k+1,y,q,e,h,h1,h2=>by
  rw[beIn]
  cases he:onR least r i y with
  | none =>
   cases q with
   | zero=>rw[show y - ((0:Nat):Int)=y by omega,he]at h1;cases h1
   | succ q=>exact Zi5 least nominal r i k (y - 1) q e (by omega) (by rw[show y - 1 - (q:Int)=y - ((q+1:Nat):Int) by omega];exact h1) h2
  | some a =>
   dsimp only
   by_cases b:a.nominal<nominal
   ·rw[if_pos b]
    refine⟨a,rfl,?_⟩
    cases q with
    | zero=>rw[show y - ((0:Nat):Int)=y by omega,he]at h1;cases h1;exact Int.le_refl _
    | succ q=>exact Int.le_of_lt (Zfc h1 he (by omega))
   ·rw[if_neg b]
    cases q with
    | zero=>rw[show y - ((0:Nat):Int)=y by omega,he]at h1;cases h1;exact absurd h2 b
    | succ q=>exact Zi5 least nominal r i k (y - 1) q e (by omega) (by rw[show y - 1 - (q:Int)=y - ((q+1:Nat):Int) by omega];exact h1) h2
theorem Zi1 (least a c:Int):∀ (l:List DRule) (i:Nat) (b:Option Zac) (e:Zac),Zfn least a c l i b=some e->b=some e\/∃ (j:Nat) (r:DRule),l[j]?=some r/\beIn least a r ((i+j:Nat):Int) (min (lastY r) (c+2)) 20=some e
 | [],_,_,_,h => .inl h
 | r::l,i,b,e,h=>by
  rw[Zfn]at h
  rcases Zi1 least a c l (i+1) _ e h with h1|⟨j,r',h1,h2⟩
  ·cases he:beIn least a r i (min (lastY r) (c+2)) 20 with
   | none=>rw[he]at h1;exact .inl h1
   | some e' =>
    rw[he]at h1
    have d:∀ x,e'=x->∃ (j:Nat) (r':DRule),(r::l)[j]?=some r'/\beIn least a r' ((i+j:Nat):Int) (min (lastY r') (c+2)) 20=some x:=fun x f=>⟨0,r,rfl,by rw[<- f];exact he⟩
    cases b with
    | none=>cases h1;exact .inr (d _ rfl)
    | some b =>
     dsimp only at h1
     split at h1
     ·cases h1;exact .inr (d _ rfl)
     ·exact .inl h1
  ·exact .inr ⟨j+1,r',by simpa using h1,by rw[show i+(j+1)=i+1+j by omega];exact h2⟩
def EvOf (l:List DRule)(e:Zac):Prop:=∃ (j:Nat) (r:DRule) (y:Int),l[j]?=some r/\onR (Zae l) r (j:Int) y=some e
theorem ZhD {least:Int}{r:DRule}{i y:Int}{e:Zac}(h:onR least r i y=some e):y<=Go.Wk.lastY r:=by
 unfold onR at h
 split at h
 ·cases h
 ·rename_i a
  exact Int.not_lt.1 fun b=>a (.inr (.inl b))
section
variable {l:List DRule}
theorem Zlx {n:Int}{e:Zac}(c:befD l n=some e):EvOf l e/\e.nominal<n:=by
 rcases Zi1 _ _ _ l 0 none e c with h1|⟨j,r,h1,h2⟩
 ·cases h1
 ·obtain⟨y,a,b⟩:=ZgZ _ _ _ _ _ _ _ h2
  rw[Nat.zero_add]at a
  exact⟨⟨j,r,y,h1,a⟩,b⟩
end
theorem ZxL (rs:List DRule):∀ (l:List DEra) (a:Int) (i:Nat) (r:List ZaE),spGo rs l a i=some r->∀ (n k:Nat) (x y:ZaE),r[n]?=some x->r[k]?=some y->n<k->x.fin<=y.start
 | [],_,_,_,h,n,k,x,y,hx,_,_=>by
  simp only[spGo,Option.some.injEq]at h
  subst h
  simp at hx
 | [e],a,i,r,h,n,k,x,y,_,hy,hn=>by
  simp only[spGo,Option.some.injEq]at h
  subst h
  rcases k with _|k
  ·omega
  ·simp at hy
 | e::f::l,a,i,r,h,n,k,x,y,hx,hy,hn=>by
  rw[spGo]at h
  by_cases c:endT e (ruEr rs e)<=a
  ·rw[if_pos c]at h;cases h
  rw[if_neg c]at h
  obtain⟨d,b,rfl⟩:=Option.map_eq_some_iff.1 h
  rcases k with _|k
  ·omega
  simp only[List.getElem?_cons_succ]at hy
  rcases n with _|n
  ·simp only[List.getElem?_cons_zero,Option.some.injEq]at hx
   subst hx
   exact ZkQ rs (f::l) _ (i+1) d b y (List.mem_of_getElem? hy)
  ·simp only[List.getElem?_cons_succ]at hx
   exact ZxL rs (f::l) _ (i+1) d b n k x y hx hy (by omega)
theorem ZrS {rs:List DRule}{l:List DEra}{r:List ZaE}(c:Zey rs l=some r)(d:l≠[]){a b:Int}(g : -9223372036854775808<=a)(i:a<=b)(h:b<9223372036854775807):Zb9 rs l a<=Zb9 rs l b/\Zb9 rs l b<l.length:=by
 obtain⟨x,k,a2,_,_,a5,m⟩:=ZfD c d (t:=a) g (by omega)
 obtain⟨y,e,f,_,_,n,o⟩:=ZfD c d (t:=b) (by omega) h
 refine⟨Nat.not_lt.1 fun j=>?_,e⟩
 have:=ZxL rs l _ 0 r c _ _ y x f a2 j
 omega
section
variable {rs:List DRule}{l:List DEra}{Y:Nat->Int}{r:List ZaE}(hr:Zey rs l=some r)
theorem Ztv {k:Nat}{e:DEra}(a:l[k]?=some e){t:Int}(b:Zb9 rs l t=k):Zbw rs l t=ZeM e (ZaU rs e t):=by
 unfold Zbw
 rw[b,List.getD_eq_getElem?_getD,a]
 rfl
end
section
variable {l:List DRule}
theorem Zja {n:Int}{e:Zac}(c:ZbC l n=some e):EvOf l e/\n<e.nominal:=by
 rcases Zfv _ _ _ l 0 none e c with h1|⟨j,r,h1,h2⟩
 ·cases h1
 ·obtain⟨q,a,b⟩:=ZfN _ _ _ _ _ _ _ h2
  rw[Nat.zero_add]at a
  exact⟨⟨j,r,_,h1,a⟩,b⟩
