/- Parts of the proof. -/
import Derived.Test.YtpipekfmecikmaaGreatDoorW05
import Derived.Test.YtpipekfmecikmaaGreatDoorW04
import Derived.Test.YtpipekfmecikmaaGreatDoorW01
import Derived.Sort.LotA
set_option maxHeartbeats 4000000
set_option linter.unusedVariables false
set_option linter.unusedSimpArgs false
namespace Go.Proofs.YtpipekfmecikmaaGreatDoor
open Go Go.RowKit Go.Wk
attribute [local irreducible] W RL Does Zat Zaj retQ Calls Pu Stp RD Qy Ay
def srcV (Ar Az Al As:Option Addr)(cr cz cl cs:Nat)(s:DSource):Value := .agg #[.slice Ar s.rules.length cr,.slice Az s.zones.length cz,.slice Al s.links.length cl,.slice As s.shifts.length cs]
theorem ZaU {G G':Prop}(k:G')(h:Hold G'->G:=by intro k9;(first|refine walk ?_|(refine jn ?_;(try intro F);(apply Zad;exact PuA);refine fin ?_));exact k9.out):G:=h ⟨k⟩
theorem ZsS (Ar Az Al As:Option Addr)(S I R cs:Nat)(a:DSource)(Br Bz Bl Bs:Option Addr)(U J T W:Nat)(b:DSource)(w:World)(t:Zal w Ar Az Al As S I R cs a)(H:Zal w Br Bz Bl Bs U J T W b) :
  Does Tryz.prog 21 [srcV Ar Az Al As S I R cs a,srcV Br Bz Bl Bs U J T W b] w (fun v O=>v = .bool (decide (a=b))/\O=[]):=by
 have hr1:=t.r.le
 have L:=t.r.cap
 have Z:=t.l.le
 have K:=t.l.cap
 have hs1:=t.s.le
 have M:=t.s.cap
 have hz1:=t.zle
 have N:=t.zcap
 have Q:a.zones.length<=maxLen:=by omega
 unfold maxLen at L K M N
 generalize hres:decide (a=b)=res
 rw[Zr2]at hres
 refine Zaa Tryz.func21 rfl rfl rfl rfl ?_
 repeat (first|refine ZaU ?_|(refine jn ?_;(try intro F);(refine bx ?_;intro c);refine fin ?_))
 apply Zam;rfl;rfl;rfl
 ·intro D
  repeat (first|refine ZaU ?_|(refine jn ?_;(try intro F);(refine bx ?_;intro c);refine fin ?_))
  exact ret_1 _ [] (.tmp rfl) .nil ⟨by rw[<- hres,ZiS (xs:=a.rules)];simp;simp at D;omega,rfl⟩
 intro D
 repeat (first|refine ZaU ?_|(refine jn ?_;(try intro F);(refine bx ?_;intro c);refine fin ?_))
 apply Zam;rfl;rfl;rfl
 ·intro E
  repeat (first|refine ZaU ?_|(refine jn ?_;(try intro F);(refine bx ?_;intro c);refine fin ?_))
  exact ret_1 _ [] (.tmp rfl) .nil ⟨by rw[<- hres,ZiS (xs:=a.links)];simp;simp at E;omega,rfl⟩
 intro E
 repeat (first|refine ZaU ?_|(refine jn ?_;(try intro F);(refine bx ?_;intro c);refine fin ?_))
 apply Zam;rfl;rfl;rfl
 ·intro e
  repeat (first|refine ZaU ?_|(refine jn ?_;(try intro F);(refine bx ?_;intro c);refine fin ?_))
  exact ret_1 _ [] (.tmp rfl) .nil ⟨by rw[<- hres,ZiS (xs:=a.shifts)];simp;simp at e;omega,rfl⟩
 intro e
 have e1:a.rules.length=b.rules.length:=by simp at D;omega
 have e2:a.links.length=b.links.length:=by simp at E;omega
 have e3:a.shifts.length=b.shifts.length:=by simp at e;omega
 clear D E e
 repeat (first|refine walk ?_|(refine jg ?_;(try intro F);(first|(refine Zab (fun w' Y=>Zq5 Az Bz I J a.zones b.zones w' (t.z.up Y) (H.z.up Y) Q) ?_)|(refine bx ?_;intro c));refine fin ?_)|(refine jn ?_;(try intro F);(first|(refine bx ?_;intro c)|(apply Zad;exact PuA));refine fin ?_))
 refine Zaf rfl (fun y=>?_) (fun y=>?_)
 ·repeat (first|refine ZaU ?_|(refine jn ?_;(try intro F);(refine bx ?_;intro c);refine fin ?_))
  simp at y
  exact ret_1 _ [] (.tmp rfl) .nil ⟨by rw[<- hres];simp[y],rfl⟩
 simp only[Bool.not_eq_false',decide_eq_true_eq]at y
 rw[y]at hres
 simp only[decide_true,Bool.and_true]at hres
 repeat (first|refine ZaU ?_|(refine jn ?_;(try intro F);(refine bx ?_;intro c);refine fin ?_))
 refine Zai [(2,_),(3,_),(4,_)] _ (fun k:Nat=>[(5,.int .i64 k)]) (fun _=>[]) (fun k=>k<=a.rules.length/\(decide (a.rules.drop k=b.rules.drop k)&&(decide (a.links=b.links)&&decide (a.shifts=b.shifts)))=res) (fun k=>a.rules.length - k) 0 ⟨rfl,rfl,rfl,rfl,trivial⟩ (.refl _) ⟨by omega,by simpa using hres⟩ ?_
 rintro k ⟨X,m⟩
 repeat (first|refine ZaU ?_|(refine jn ?_;(try intro F);(refine bx ?_;intro c);refine fin ?_))
 refine Zaf rfl (fun f=>?_) (fun f=>?_)
 ·simp only[decide_eq_true_eq,Int.ofNat_lt]at f
  have j:k<b.rules.length:=by omega
  obtain⟨hna,hca⟩:=t.r.rd k _ (List.getElem?_eq_getElem f)
  obtain⟨hnb,hcb⟩:=H.r.rd k _ (List.getElem?_eq_getElem j)
  rw[Zah f,Zah j,ZfX]at m
  generalize a.rules[k]=p at *
  generalize b.rules[k]=q at *
  repeat (first|(apply RL_pu;rfl;exact PuI)|(apply RD_Q;rfl;rfl;decide +kernel;rfl;rfl;exact QyI)|refine walk1 ?_|(refine jn ?_;(try intro F);(first|(refine bx ?_;intro c)|(apply Zad;first|exact PuI|exact PuA));first|refine⟨_,EndsA,QFI,?_⟩|refine fin ?_))
  refine Zaf rfl (fun e=>?_) (fun e=>?_)
  ·repeat (first|refine ZaU ?_|(refine jn ?_;(try intro F);(refine bx ?_;intro c);refine fin ?_))
   exact ret_1 _ [] (.tmp rfl) .nil ⟨by simp at e;simp[<- m,e],rfl⟩
  repeat (first|refine ZaU ?_|(refine jn ?_;(try intro F);(refine bx ?_;intro c);refine fin ?_))
  simp at e
  exact⟨k+1,by omega,⟨by omega,by rw[<- m];simp[e]⟩,SFA,SOA⟩
 simp only[decide_eq_false_iff_not,Int.ofNat_lt]at f
 have u:(decide (a.links=b.links)&&decide (a.shifts=b.shifts))=res:=by rw[<- m,ZiR (xs:=a.rules) (by omega) (by omega)];simp
 clear m hres
 repeat (first|refine ZaU ?_|(refine jn ?_;(try intro F);(refine bx ?_;intro c);refine fin ?_))
 refine Zai [(2,_),(3,_),(4,_)] _ (fun k:Nat=>[(6,.int .i64 k)]) (fun _=>[]) (fun k=>k<=a.links.length/\(decide (a.links.drop k=b.links.drop k)&&decide (a.shifts=b.shifts))=res) (fun k=>a.links.length - k) 0 ⟨rfl,rfl,rfl,rfl,trivial⟩ (.refl _) ⟨by omega,by simpa using u⟩ ?_
 rintro k ⟨X,m⟩
 repeat (first|refine ZaU ?_|(refine jn ?_;(try intro F);(refine bx ?_;intro c);refine fin ?_))
 refine Zaf rfl (fun f=>?_) (fun f=>?_)
 ·simp only[decide_eq_true_eq,Int.ofNat_lt]at f
  have j:k<b.links.length:=by omega
  obtain⟨hna,hca⟩:=t.l.rd k _ (List.getElem?_eq_getElem f)
  obtain⟨hnb,hcb⟩:=H.l.rd k _ (List.getElem?_eq_getElem j)
  rw[Zah f,Zah j,ZfX]at m
  generalize a.links[k]=p at *
  generalize b.links[k]=q at *
  repeat (first|(apply RL_pu;rfl;exact PuI)|(apply RD_Q;rfl;rfl;decide +kernel;rfl;rfl;exact QyI)|refine walk1 ?_|(refine jn ?_;(try intro F);(first|(refine bx ?_;intro c)|(apply Zad;first|exact PuI|exact PuA));first|refine⟨_,EndsA,QFI,?_⟩|refine fin ?_))
  refine Zaf rfl (fun e=>?_) (fun e=>?_)
  ·repeat (first|refine ZaU ?_|(refine jn ?_;(try intro F);(refine bx ?_;intro c);refine fin ?_))
   exact ret_1 _ [] (.tmp rfl) .nil ⟨by simp at e;simp[<- m,e],rfl⟩
  repeat (first|refine ZaU ?_|(refine jn ?_;(try intro F);(refine bx ?_;intro c);refine fin ?_))
  simp at e
  exact⟨k+1,by omega,⟨by omega,by rw[<- m];simp[e]⟩,SFA,SOA⟩
 simp only[decide_eq_false_iff_not,Int.ofNat_lt]at f
 have x:decide (a.shifts=b.shifts)=res:=by rw[<- m,ZiR (xs:=a.links) (by omega) (by omega)];simp
 clear m u
 repeat (first|refine ZaU ?_|(refine jn ?_;(try intro F);(refine bx ?_;intro c);refine fin ?_))
 refine Zai [(2,_),(3,_),(4,_)] _ (fun k:Nat=>[(7,.int .i64 k)]) (fun _=>[]) (fun k=>k<=a.shifts.length/\decide (a.shifts.drop k=b.shifts.drop k)=res) (fun k=>a.shifts.length - k) 0 ⟨rfl,rfl,rfl,rfl,trivial⟩ (.refl _) ⟨by omega,by simpa using x⟩ ?_
 rintro k ⟨X,m⟩
 repeat (first|refine ZaU ?_|(refine jn ?_;(try intro F);(refine bx ?_;intro c);refine fin ?_))
 refine Zaf rfl (fun f=>?_) (fun f=>?_)
 ·simp only[decide_eq_true_eq,Int.ofNat_lt]at f
  have j:k<b.shifts.length:=by omega
  obtain⟨hna,hca⟩:=t.s.rd k _ (List.getElem?_eq_getElem f)
  obtain⟨hnb,hcb⟩:=H.s.rd k _ (List.getElem?_eq_getElem j)
  rw[Zah f,Zah j,ZfX]at m
  generalize a.shifts[k]=p at *
  generalize b.shifts[k]=q at *
  repeat (first|(apply RL_pu;rfl;exact PuI)|(apply RD_Q;rfl;rfl;decide +kernel;rfl;rfl;exact QyI)|refine walk1 ?_|(refine jn ?_;(try intro F);(first|(refine bx ?_;intro c)|(apply Zad;first|exact PuI|exact PuA));first|refine⟨_,EndsA,QFI,?_⟩|refine fin ?_))
  refine Zaf rfl (fun e=>?_) (fun e=>?_)
  ·repeat (first|refine ZaU ?_|(refine jn ?_;(try intro F);(refine bx ?_;intro c);refine fin ?_))
   exact ret_1 _ [] (.tmp rfl) .nil ⟨by simp at e;simp[<- m,e],rfl⟩
  repeat (first|refine ZaU ?_|(refine jn ?_;(try intro F);(refine bx ?_;intro c);refine fin ?_))
  simp at e
  exact⟨k+1,by omega,⟨by omega,by rw[<- m];simp[e]⟩,SFA,SOA⟩
 simp only[decide_eq_false_iff_not,Int.ofNat_lt]at f
 repeat (first|refine ZaU ?_|(refine jn ?_;(try intro F);(refine bx ?_;intro c);refine fin ?_))
 exact ret_1 _ [] (.tmp rfl) .nil ⟨by rw[<- m,ZiR (by omega) (by omega)],rfl⟩
def memB (x:ByteArray):List ByteArray->Bool
 | []=>false
 | y::l=>decide (y=x)||memB x l
def ZbW {α:Type}(p:α->Bool):List α->Nat->Int
 | [],_ => -1
 | x::l,k=>if p x then k else ZbW p l (k+1)
theorem ZrS (A:Option Addr)(c:Nat)(l:List ByteArray)(x:ByteArray)(w:World)(g:RdSl w A c ZaO 1 l) :
  Does Tryz.prog 231 [.slice A l.length c,.string x] w (fun v O=>v = .int .i64 (ZbW (fun y=>decide (x=y)) l 0)/\O=[]):=by
 have j:=g.le
 have i:=g.cap
 unfold maxLen at i
 generalize hres:ZbW (fun y=>decide (x=y)) l 0=res
 refine Zaa Tryz.func231 rfl rfl rfl rfl ?_
 repeat (first|refine walk ?_)
 refine Zai [(0,_),(1,_),(4,_),(7,_)] _ (fun k:Nat=>[(8,.int .i64 k)]) (fun _=>[]) (fun k=>k<=l.length/\ZbW (fun y=>decide (x=y)) (l.drop k) k=res) (fun k=>l.length - k) 0 ⟨rfl,rfl,rfl,rfl,rfl,trivial⟩ (.refl _) ⟨by omega,by simpa using hres⟩ ?_
 rintro k ⟨m,d⟩
 repeat (first|refine walk ?_)
 refine Zaf rfl (fun e=>?_) (fun e=>?_)
 ·simp only[decide_eq_true_eq,Int.ofNat_lt]at e
  obtain⟨hna,hca⟩:=g.rd k _ (List.getElem?_eq_getElem e)
  have hnb:=hna
  have hcb:=hca
  rw[Zah e,ZbW]at d
  generalize l[k]=p at *
  repeat (first|(apply RL_pu;rfl;exact PuI)|refine walk1 ?_)
  refine Zaf rfl (fun f=>?_) (fun f=>?_)
  ·repeat (first|refine walk ?_)
   rw[if_pos f]at d
   exact ret_1 _ [] (.tmp rfl) .nil ⟨by rw[<- d],rfl⟩
  repeat (first|refine walk ?_)
  rw[f]at d
  exact⟨k+1,by omega,⟨by omega,d⟩,SFA,SOA⟩
 simp only[decide_eq_false_iff_not,Int.ofNat_lt]at e
 repeat (first|refine walk ?_)
 exact ret_1 _ [] (.tmp rfl) .nil ⟨by rw[<- d,List.drop_eq_nil_of_le (by omega)];rfl,rfl⟩
theorem ZmT (x:ByteArray):∀ (l:List ByteArray) (k:Nat),decide (0<=ZbW (fun y=>decide (x=y)) l k)=memB x l
 | [],k=>by simp[ZbW,memB]
 | y::l,k=>by
  have a:=ZmT x l (k+1)
  simp only[ZbW,memB]
  by_cases h:x=y
  ·subst h;simp
  ·rw[<- a]
   have:¬ y=x:=fun e=>h e.symm
   simp[h,this]
theorem Zlh (A:Option Addr)(c:Nat)(l:List ByteArray)(x:ByteArray)(w:World)(a:RdSl w A c ZaO 1 l) :
  Does Tryz.prog 180 [.slice A l.length c,.string x] w (fun v O=>v = .bool (memB x l)/\O=[]):=by
 refine Zaa Tryz.func180 rfl rfl rfl rfl ?_
 repeat (first|(refine js ?_;(refine Zab (fun w' b=>ZrS A c l x w' (a.up b)) ?_))|refine walk ?_)
 exact ret_1 _ [] (.tmp rfl) .nil ⟨by rw[ZmT],rfl⟩
theorem Zff (A:Option Addr)(c:Nat)(l:List DRule)(f:FuncId)[Body Tryz.prog f](us cs:List Value)(p:DRule->Bool)(w:World)(i:RdSl w A c DRule.enc 11 l)
  (m:∀ r w',Bel w.heap.size w w'->Does Tryz.prog f (us++[.agg (DRule.enc r).toArray]++cs) w' (fun v O=>v = .bool (p r)/\O=[])) :
  Does Tryz.prog 269 [.slice A l.length c,.func (.func f) us.toArray cs.toArray] w (fun v O=>v = .int .i64 (ZbW p l 0)/\O=[]):=by
 have q:=i.le
 have j:=i.cap
 unfold maxLen at j
 generalize hres:ZbW p l 0=res
 refine Zaa Tryz.func269 rfl rfl rfl rfl ?_
 repeat (first|refine walk ?_)
 refine Zai [(0,_),(1,_),(4,_),(7,_)] _ (fun k:Nat=>[(8,.int .i64 k)]) (fun _=>[]) (fun k=>k<=l.length/\ZbW p (l.drop k) k=res) (fun k=>l.length - k) 0 ⟨rfl,rfl,rfl,rfl,rfl,trivial⟩ (.refl _) ⟨by omega,by simpa using hres⟩ ?_
 rintro k ⟨t,d⟩
 repeat (first|refine walk ?_)
 refine Zaf rfl (fun e=>?_) (fun e=>?_)
 ·simp only[decide_eq_true_eq,Int.ofNat_lt]at e
  obtain⟨hna,hca⟩:=i.rd k _ (List.getElem?_eq_getElem e)
  have hnb:=hna
  have hcb:=hca
  rw[Zah e,ZbW]at d
  generalize l[k]=r at *
  repeat (first|(apply RL_pu;rfl;exact PuI)|(refine js ?_;(refine Zf2 (fun w' s _=>m r w' s) ?_))|refine walk1 ?_)
  refine Zaf rfl (fun g=>?_) (fun g=>?_)
  ·repeat (first|refine walk ?_)
   rw[if_pos g]at d
   exact ret_1 _ [] (.tmp rfl) .nil ⟨by rw[<- d],rfl⟩
  repeat (first|refine walk ?_)
  rw[g]at d
  exact⟨k+1,by omega,⟨by omega,d⟩,SFA,SOA⟩
 simp only[decide_eq_false_iff_not,Int.ofNat_lt]at e
 repeat (first|refine walk ?_)
 exact ret_1 _ [] (.tmp rfl) .nil ⟨by rw[<- d,List.drop_eq_nil_of_le (by omega)];rfl,rfl⟩
def ofB (l:List DRule)(x:ByteArray):List DRule:=l.filter fun r=>decide (r.name=x)
def ZgR {α:Type}(e sz:Nat)(enc:α->List Value)(l:List α)(v:Value)(O:List It):Prop:=∃ A c,v = .slice A l.length c/\O=[.row (.slice A l.length c) e sz l.length (l.flatMap enc)]
theorem Zib (Ar Az Al As:Option Addr)(j q i cs:Nat)(a:DSource)(set:ByteArray)(w:World)(s:Zal w Ar Az Al As j q i cs a)(z:a.rules.length<=1000000) :
  Does Tryz.prog 86 [srcV Ar Az Al As j q i cs a,.string set] w (ZgR 68 11 DRule.enc (ofB a.rules set)):=by
 generalize hres:ofB a.rules set=res
 refine Zaa Tryz.func86 rfl rfl rfl rfl ?_
 repeat (first|(refine js ?_;(refine bx ?_;intro d))|refine walk ?_)
 refine Zdq 68 11 ?_
 refine Zai [(1,_),(2,_),(4,_)] [_] (fun g:AG DRule=>[(5,.slice g.A g.m g.c),(6,.int .i64 g.k)]) (fun g=>[.row (.slice g.A g.m g.c) 68 11 g.m g.xs]) (fun g=>g.k<=a.rules.length/\g.m=g.acc.length/\g.xs=g.acc.flatMap DRule.enc/\g.m<=g.k/\g.acc++ofB (a.rules.drop g.k) set=res) (fun g=>a.rules.length - g.k) ⟨0,none,0,0,[],[]⟩ ⟨rfl,rfl,rfl,rfl,rfl,trivial⟩ (.refl _) ⟨by simp,rfl,rfl,Nat.le_refl _,by simpa using hres⟩ ?_
 rintro⟨k,A,c,m,xs,acc⟩ ⟨hk,hm,hx,hmk,hi⟩
 dsimp only at hk hm hx hmk hi ⊢
 repeat (first|(refine js ?_;(refine bx ?_;intro d))|refine walk ?_)
 refine Zaf rfl (fun e=>?_) (fun e=>?_)
 ·simp only[decide_eq_true_eq,Int.ofNat_lt]at e
  obtain⟨hna,hca⟩:=s.r.rd k _ (List.getElem?_eq_getElem e)
  have hnb:=hna
  have hcb:=hca
  rw[Zah e,ofB,List.filter_cons]at hi
  generalize a.rules[k]=r at *
  repeat (first|(apply RL_pu;rfl;exact PuI)|(refine js ?_;(refine bx ?_;intro d))|refine walk1 ?_)
  refine Zaf rfl (fun f=>?_) (fun f=>?_)
  ·rw[if_pos f]at hi
   repeat (first|(apply RL_pu;rfl;exact PuI)|(refine js ?_;(first|(apply ZaF;rfl;rfl;(intro A' c';(focus repeat' constructor));(intro w' _ t;exact ZbD (t.of (by repeat' constructor)));rfl;rfl;(simp only[maxLen];omega);omega;intro A' c' u x y)|(refine bx ?_;intro d)))|refine walk1 ?_)
   exact⟨⟨k+1,A',c',m+1,xs++r.enc,acc++[r]⟩,OA,⟨OA,by simp[hm],by rw[hx];exact Zb0 acc r,OA,by rw[<- hi];simp[ofB]⟩,SFA,SOA⟩
  rw[f]at hi
  repeat (first|(refine js ?_;(refine bx ?_;intro d))|refine walk ?_)
  exact⟨⟨k+1,A,c,m,xs,acc⟩,OA,⟨OA,hm,hx,OA,hi⟩,SFA,SOA⟩
 simp only[decide_eq_false_iff_not,Int.ofNat_lt]at e
 rw[List.drop_eq_nil_of_le (by omega)]at hi
 simp only[ofB,List.filter_nil,List.append_nil]at hi
 subst hi
 repeat (first|(refine js ?_;(refine bx ?_;intro d))|refine walk ?_)
 exact ret_1 _ [.row (.slice A acc.length c) 68 11 acc.length (acc.flatMap DRule.enc)] (.tmp rfl) (by subst hm hx;exact SOA) ⟨A,c,by rw[hm],rfl⟩
def ZbC:List DRule->List ByteArray->List ByteArray
 | [],acc=>acc
 | r::l,acc=>if memB r.name acc then ZbC l acc else ZbC l (acc++[r.name])
theorem Zmw (x y:ByteArray):∀ l:List ByteArray,memB x (l++[y])=(memB x l||decide (y=x))
 | []=>by simp[memB]
 | z::l=>by simp[memB,Zmw x y l,Bool.or_assoc]
theorem ZdJ {G G':Prop}(k:G')(h:Hold G'->G:=by intro k9;(first|refine walk ?_|(refine jn ?_;(try intro F);(apply Zad;exact PuA);refine fin ?_));exact k9.out):G:=h ⟨k⟩
theorem Zpn {G:Prop}(h:G:=by(first|exact PuI|(apply Zb9;rfl;(focus repeat' constructor);exact hg))):G:=h
theorem ZuJ {G:Prop}(h:G:=by first|(apply Qy_y;rfl;exact Zpn)|exact QyA):G:=h
theorem ZAC {G:Prop}(h:G:=by repeat (first|exact QF.nil|(apply QF.mk;rfl;rfl;decide +kernel;exact ZuJ))):G:=h
theorem Zod (Ar Az Al As:Option Addr)(z D x cs:Nat)(a:DSource)(w:World)(E:Zal w Ar Az Al As z D x cs a)(J:a.rules.length<=1000000) :
  Does Tryz.prog 187 [srcV Ar Az Al As z D x cs a] w (ZgR 9 1 ZaO (ZbC a.rules [])):=by
 generalize hres:ZbC a.rules []=res
 refine Zaa Tryz.func187 rfl rfl rfl rfl ?_
 repeat (first|refine ZdJ ?_|(refine jn ?_;(try intro F);(refine bx ?_;intro d);refine fin ?_)|(apply RD_W;rfl;intro d))
 refine Zdq 9 1 ?_
 refine Zai [(1,_),(2,_)] [_] (fun g:AG ByteArray=>[(3,.slice g.A g.m g.c),(4,.int .i64 g.k)]) (fun g=>[.row (.slice g.A g.m g.c) 9 1 g.m g.xs]) (fun g=>g.k<=a.rules.length/\g.m=g.acc.length/\g.xs=g.acc.flatMap ZaO/\g.m<=g.k/\ZbC (a.rules.drop g.k) g.acc=res) (fun g=>a.rules.length - g.k) ⟨0,none,0,0,[],[]⟩ ⟨rfl,rfl,rfl,rfl,trivial⟩ (.refl _) ⟨by simp,rfl,rfl,Nat.le_refl _,by simpa using hres⟩ ?_
 rintro⟨k,A,c,m,xs,acc⟩ ⟨hk,hm,hx,hmk,hi⟩
 dsimp only at hk hm hx hmk hi ⊢
 repeat (first|refine ZdJ ?_|(refine jn ?_;(try intro F);(refine bx ?_;intro d);refine fin ?_)|(apply RD_W;rfl;intro d))
 refine Zaf rfl (fun q=>?_) (fun q=>?_)
 ·simp only[decide_eq_true_eq,Int.ofNat_lt]at q
  obtain⟨hna,hca⟩:=E.r.rd k _ (List.getElem?_eq_getElem q)
  rw[Zah q,ZbC]at hi
  generalize a.rules[k]=r at *
  repeat (first|refine ZdJ ?_|(refine jn ?_;(try intro F);(refine bx ?_;intro d);refine fin ?_)|(apply RD_W;rfl;intro d))
  refine Zai [(1,_),(2,_),(3,_),(4,_)] [_,_] (fun g:Nat × Bool=>[(5,.bool g.2),(6,.int .i64 g.1)]) (fun _=>[]) (fun g=>g.1<=m/\(g.2||memB r.name (acc.drop g.1))=memB r.name acc) (fun g=>m - g.1) (0,false) ⟨rfl,rfl,rfl,rfl,rfl,rfl,trivial⟩ (.refl _) ⟨by omega,by simp⟩ ?_
  rintro⟨j,seen⟩ ⟨hj,hij⟩
  dsimp only at hj hij ⊢
  repeat (first|refine ZdJ ?_|(refine jn ?_;(try intro F);(refine bx ?_;intro d);refine fin ?_)|(apply RD_W;rfl;intro d))
  refine Zaf rfl (fun e=>?_) (fun e=>?_)
  ·simp only[decide_eq_true_eq,Int.ofNat_lt]at e
   have s:j<acc.length:=by omega
   refine ZBu (fun w' _ u=>ZpR (u.of (by repeat' constructor)) (by omega)) (fun hnb=>?_)
   rw[Zah s,memB]at hij
   have hg:xs[(j:Int).toNat*1]?=some (.string acc[j]):=by
    rw[hx]
    exact ZaC ZaO.len acc j _ 0 _ (List.getElem?_eq_getElem s) rfl
   generalize acc[j]=y at *
   repeat (first|refine ZdJ ?_|(refine jn ?_;(try intro F);(refine bx ?_;intro d);refine fin ?_)|(apply RD_W;rfl;intro d))
   refine Zlv 21 rfl (fun t=>?_) (fun t=>?_)
   ·repeat (first|refine ZdJ ?_|(refine jn ?_;(try intro F);(refine bx ?_;intro d);refine fin ?_)|(apply RD_W;rfl;intro d))
    exact⟨(j+1,true),OA,⟨OA,by rw[<- hij,t];simp⟩,SFA,SOA⟩
   have hcb:=hca
   repeat (first|(apply RL_pu;rfl;exact Zpn)|(apply RD_Q;rfl;rfl;decide +kernel;rfl;rfl;exact ZuJ)|refine walk1 ?_|(refine jn ?_;(try intro F);(first|(refine bx ?_;intro d)|(apply Zad;first|exact Zpn|exact PuA));first|refine⟨_,EndsA,ZAC,?_⟩|refine fin ?_)|(apply RD_W;rfl;intro d))
   exact⟨(j+1,decide (y=r.name)),OA,⟨OA,by rw[<- hij,t];simp⟩,SFA,SOA⟩
  simp only[decide_eq_false_iff_not,Int.ofNat_lt]at e
  rw[List.drop_eq_nil_of_le (by omega)]at hij
  simp only[memB,Bool.or_false]at hij
  repeat (first|refine ZdJ ?_|(refine jn ?_;(try intro F);(refine bx ?_;intro d);refine fin ?_)|(apply RD_W;rfl;intro d))
  refine Zaf rfl (fun f=>?_) (fun f=>?_)
  ·have hnb:=hna
   have hcb:=hca
   simp only[Bool.not_eq_true']at f
   rw[<- hij,f]at hi
   repeat (first|(apply RL_pu;rfl;exact PuI)|(apply RD_Q;rfl;rfl;decide +kernel;rfl;rfl;exact QyI)|refine walk1 ?_|(refine jn ?_;(try intro F);(first|(apply ZaF;rfl;rfl;(intro A' c';(focus repeat' constructor));(intro w' _ u;exact ZbD (u.of (by repeat' constructor)));rfl;rfl;(simp only[maxLen];omega);omega;intro A' c' H e I)|(refine bx ?_;intro d)|(apply Zad;first|exact PuI|exact PuA));first|refine⟨_,EndsA,QFI,?_⟩|refine fin ?_)|(apply RD_W;rfl;intro d))
   exact⟨⟨k+1,A',c',m+1,xs++ZaO r.name,acc++[r.name]⟩,OA,⟨OA,by simp[hm],by rw[hx];exact Zb0 acc r.name,OA,by rw[<- hi];simp⟩,SFA,SOA⟩
  simp only[Bool.not_eq_false']at f
  rw[<- hij,f]at hi
  repeat (first|refine ZdJ ?_|(refine jn ?_;(try intro F);(refine bx ?_;intro d);refine fin ?_)|(apply RD_W;rfl;intro d))
  exact⟨⟨k+1,A,c,m,xs,acc⟩,OA,⟨OA,hm,hx,OA,by rw[<- hi];simp⟩,SFA,SOA⟩
 simp only[decide_eq_false_iff_not,Int.ofNat_lt]at q
 rw[List.drop_eq_nil_of_le (by omega),ZbC]at hi
 subst hi
 repeat (first|refine ZdJ ?_|(refine jn ?_;(try intro F);(refine bx ?_;intro d);refine fin ?_)|(apply RD_W;rfl;intro d))
 exact ret_1 _ [.row (.slice A acc.length c) 9 1 acc.length (acc.flatMap ZaO)] (.tmp rfl) (by subst hm hx;exact SOA) ⟨A,c,by rw[hm],rfl⟩
end Go.Proofs.YtpipekfmecikmaaGreatDoor
namespace Go.Proofs.YtpipekfmecikmaaGreatDoor
open Go Go.RowKit Go.Wk
def ZaK (x:ByteArray):List DZone->Nat->Option Nat
 | [],_=>none
 | z::l,k=>if z.name=x then some k else ZaK x l (k+1)
def ZaN (x:ByteArray):List DLink->Nat->Option Nat
 | [],_=>none
 | z::l,k=>if z.name=x then some k else ZaN x l (k+1)
def ZaJ (s:DSource):Nat->List ByteArray->ByteArray->Nat × Int
 | 0,_,_=>(0,11)
 | fuel+1,seen,x =>
  match ZaK x s.zones 0 with
  | some i=>(i,0)
  | none=>match ZaN x s.links 0 with
   | none=>(0,9)
   | some i=>if memB x seen then (0,11) else ZaJ s fuel (x::seen) ((s.links[i]?).map (·.target) |>.getD ByteArray.empty)
def Za4 (s:DSource):List DZone->Nat->Option (Zaq × Int)
 | [],_=>none
 | z::l,i=>if Ze5 z.name=false then some (⟨2,i,0⟩,9) else if ZaK z.name s.zones 0≠some i then some (⟨2,i,0⟩,10) else Za4 s l (i+1)
def Zbj (s:DSource):List DLink->Nat->Option (Zaq × Int)
 | [],_=>none
 | l::ls,i =>
  if Ze5 l.name=false then some (⟨3,i,0⟩,9)
  else if (ZaK l.name s.zones 0).isSome\/ZaN l.name s.links 0≠some i then some (⟨3,i,0⟩,10)
  else if (ZaK l.target s.zones 0).isNone/\(ZaN l.target s.links 0).isNone then some (⟨3,i,0⟩,9)
  else Zbj s ls (i+1)
def Zbi (s:DSource):List DLink->Nat->Option (Zaq × Int)
 | [],_=>none
 | l::ls,i=>if (ZaJ s (s.links.length+1) [] l.name).2=11 then some (⟨3,i,0⟩,11) else Zbi s ls (i+1)
def Zc6 (s:DSource):Option (Zaq × Int):=(Za4 s s.zones 0).or ((Zbj s s.links 0).or (Zbi s s.links 0))
def insE (e:Zac):List Zac->List Zac
 | []=>[e]
 | x::l=>if ordE x e<0 then e::x::l else x::insE e l
def ZkG (least y:Int):List DRule->Nat->List Zac->List Zac
 | [],_,acc=>acc
 | r::l,i,acc=>ZkG least y l (i+1) (match onR least r i y with|some e=>insE e acc|none=>acc)
def ZeE (l:List DRule)(least from_:Int):Nat->List Zac
 | 0=>[]
 | k+1=>ZkG least (from_+k) l 0 (ZeE l least from_ k)
def Zha:List Zac->Option Zac
 | []=>none
 | [_]=>none
 | a::b::l=>(Zha (b::l)).or (if a.nominal - b.nominal<259200 then some a else none)
def ZeD (l:List DRule):Option Zac:=Zha (ZeE l (Zag l) 1850 701)
def evIn (least nominal:Int)(r:DRule)(i y:Int):Nat->Option Zac
 | 0=>none
 | k+1=>match onR least r i y with
  | some e=>if nominal<e.nominal then some e else evIn least nominal r i (y+1) k
  | none=>evIn least nominal r i (y+1) k
def Zby (least nominal yr:Int):List DRule->Nat->Option Zac->Option Zac
 | [],_,best=>best
 | r::l,i,best =>
  Zby least nominal yr l (i+1) (match evIn least nominal r i (max (max r.from_ (-2000000000)) (yr - 2)) 20 with
   | none=>best
   | some e=>match best with|none=>some e|some b=>if ordE e b<0 then some e else some b)
def ZeF (l:List DRule)(nominal:Int):Option Zac:=Zby (Zag l) nominal (ZaE nominal) l 0 none
def farD (l:List DRule)(nominal:Int):Bool :=
 match ZeF l (nominal - 259200) with
 | none=>true
 | some e=>decide (259200<=e.nominal - nominal)
def Zc2 (s:DSource):Option (Zaq × Int) :=
 if 2000<s.rules.length then some (⟨1,2000,0⟩,7)
 else if 500<s.zones.length then some (⟨2,500,0⟩,7)
 else match s.zones.findIdx? fun z=>decide (60<z.eras.length) with
  | some i=>some (⟨2,i,60⟩,7)
  | none=>if 1000<s.links.length then some (⟨3,1000,0⟩,7) else if 2000<s.shifts.length then some (⟨4,2000,0⟩,7) else none
def ZbY (set:ByteArray):List DRule->Nat->Nat->Zaq
 | [],_,_=>⟨0,0,0⟩
 | r::l,i,k=>if r.name=set then (match i with|0=>⟨1,k,0⟩|i+1=>ZbY set l i (k+1)) else ZbY set l i (k+1)
def ZbX (rs:List DRule)(x:ByteArray):Option (Nat × Int) :=
 if setB x=false then some (0,9)
 else if (Zcv (ofB rs x)).2≠0 then some (Zcv (ofB rs x))
 else match ZeD (ofB rs x) with|some e=>some (e.rule.toNat,13)|none=>none
def Zcw (rs:List DRule):List ByteArray->Option (Zaq × Int)
 | []=>none
 | x::l=>match ZbX rs x with|some (i,e)=>some (ZbY x rs i 0,e)|none=>Zcw rs l
def Ze6 (s:DSource):Option (Zaq × Int):=Zcw s.rules (ZbC s.rules [])
def ZaV (s:DSource):List ByteArray->List ByteArray->Nat->Option (Zaq × Int)
 | [],_,_=>none
 | x::l,seen,i =>
  let r:=ofB s.rules x
  if r=[] then some (⟨4,i,0⟩,9)
  else if memB x seen then some (⟨4,i,0⟩,10)
  else if Zag r≠0\/(ZbS r).2=false then some (⟨4,i,0⟩,14)
  else ZaV s l (seen++[x]) (i+1)
def ZaA (rs:List DRule)(e:DEra):List DRule:=if e.kind=2 then ofB rs e.set else []
def ZaB (rs:List DRule)(e:DEra):List (Int × ByteArray):=if e.kind=1 then [(e.save,ByteArray.empty)] else if e.kind=2 then (ZaA rs e).map fun r=>(r.save,r.letter) else [(0,ByteArray.empty)]
def ZaW (off save:Int):Bool:=decide (-54000<=off+save)&&decide (off+save<=54000)
def dU0:DUntil:=⟨false,0,0,⟨0,0,0⟩,⟨0,0⟩⟩
def Zdj (e:DEra):Bool:=(!decide (e.kind=1)&&!decide (e.save=0))||(!decide (e.kind=2)&&!decide (e.set=ByteArray.empty))||(!e.til.is&&!decide ({ e.til with is:=false }=dU0))
def Zda (rs:List DRule)(e:DEra)(first:Bool):Int :=
 if e.kind<0\/2<e.kind then 2
 else if first=true/\e.kind=2 then 12
 else if e.kind=2/\ZaA rs e=[] then 9
 else if e.kind=1/\(e.save<1\/10800<e.save) then 14
 else if ZaW e.off 0=false\/((ZaB rs e).any fun x => !ZaW e.off x.1)=true then 3
 else if Zdj e then 2
 else Zd6 e (ZaA rs e)
def dE0:DEra:=⟨0,0,0,ByteArray.empty,ByteArray.empty,dU0⟩
def ZcS (rs:List DRule)(l:List DEra)(k:Nat):Int :=
 let e:=l.getD k dE0
 if e.til.is≠decide (k+1<l.length) then 12
 else if e.til.is=false then 0
 else
  let least:=Zag (ZaA rs e)
  if ZaD e.til least≠0 then ZaD e.til least
  else
   let n:=(Zao e.til least).1
   let b:=l.getD (k - 1) dE0
   if 0<k/\((Zao b.til (Zag (ZaA rs b))).2≠0\/n - (Zao b.til (Zag (ZaA rs b))).1<259200) then 12
   else if e.kind=2/\farD (ZaA rs e) n=false then 13
   else 0
def addP (x:Int × List UInt8)(l:List (Int × List UInt8)):List (Int × List UInt8):=if x∈l then l else l++[x]
def addA (x:List UInt8)(l:List (List UInt8)):List (List UInt8):=if x∈l then l else l++[x]
def stGo (e:DEra):List (Int × ByteArray)->List (Int × List UInt8) × List (List UInt8)->List (Int × List UInt8) × List (List UInt8)
 | [],acc=>acc
 | x::l,acc =>
  let a:=(Zdp e.format.data.toList e.off x.1 x.2.data.toList).1
  stGo e l (addP (e.off+x.1,a) acc.1,addA a acc.2)
def erGo (rs:List DRule):List DEra->List (Int × List UInt8) × List (List UInt8)->List (Int × List UInt8) × List (List UInt8)
 | [],acc=>acc
 | e::l,acc=>erGo rs l (stGo e (ZaB rs e) acc)
def ZcZ:List (List UInt8)->Nat
 | []=>0
 | x::l=>x.length+1+ZcZ l
def ZeA (rs:List DRule)(z:DZone):Bool:=decide ((erGo rs z.eras ([],[])).1.length<=120)&&decide (ZcZ (erGo rs z.eras ([],[])).2<=250)
def Zb1 (rs:List DRule)(l:List DEra)(i:Nat):Nat->Nat->Option (Zaq × Int)
 | 0,_=>none
 | f+1,k =>
  if Zda rs (l.getD k dE0) (decide (k=0))≠0 then some (⟨2,i,k⟩,Zda rs (l.getD k dE0) (decide (k=0)))
  else if ZcS rs l k≠0 then some (⟨2,i,k⟩,ZcS rs l k)
  else Zb1 rs l i f (k+1)
def Za8 (rs:List DRule):List DZone->Nat->Option (Zaq × Int)
 | [],_=>none
 | z::l,i =>
  if z.eras=[] then some (⟨2,i,0⟩,4)
  else match Zb1 rs z.eras i z.eras.length 0 with
   | some x=>some x
   | none=>if ZeA rs z=false then some (⟨2,i,0⟩,7) else Za8 rs l (i+1)
def accD (s:DSource):Option (Zaq × Int):=(Zc2 s).or ((Ze6 s).or ((ZaV s s.shifts [] 0).or ((Zc6 s).or (Za8 s.rules s.zones 0))))
theorem Zel (a b:Zac):ordE a b<0↔a.nominal<b.nominal\/(a.nominal=b.nominal/\(a.rule<b.rule\/(a.rule=b.rule/\a.year<b.year))):=by
 unfold ordE
 repeat' split
 all_goals omega
def ltE (x y:Zac):Bool:=decide (ordE x y<0)
theorem swoE:Go.Sort.SWO ltE where
 irrefl x:=by simp only[ltE,Zel,decide_eq_false_iff_not];omega
 trans x y z h1 h2:=by simp only[ltE,Zel,decide_eq_true_eq]at *;omega
 ntrans x y z h1 h2:=by simp only[ltE,Zel,decide_eq_false_iff_not]at *;omega
theorem totE (x y:Zac)(g:ltE x y=false)(h:ltE y x=false):x=y:=by
 simp only[ltE,Zel,decide_eq_false_iff_not]at g h
 obtain⟨a,b,c⟩:=x
 obtain⟨d,e,f⟩:=y
 simp only[Zac.mk.injEq]
 simp only at g h
 omega
def ZcA (least y:Int):List DRule->Nat->List Zac
 | [],_=>[]
 | r::l,i=>(onR least r i y).toList++ZcA least y l (i+1)
def allC (l:List DRule)(least from_:Int):Nat->List Zac
 | 0=>[]
 | k+1=>allC l least from_ k++ZcA least (from_+k) l 0
def insF (a:List Zac)(e:Zac):List Zac:=insE e a
theorem Zgf (least y:Int):∀ (l:List DRule) (i:Nat) (a:List Zac),ZkG least y l i a=(ZcA least y l i).foldl insF a
 | [],_,_=>rfl
 | r::l,i,a=>by
  rw[ZkG,ZcA,Zgf least y l]
  cases onR least r i y with
  | none=>rfl
  | some e=>rfl
theorem Zip (e:Zac):∀ l,(insE e l).Perm (e::l)
 | [] => .refl _
 | x::l=>by
  rw[insE]
  split
  ·exact .refl _
  ·exact((Zip e l).cons x).trans (.swap _ _ _)
theorem ZmF:∀ (xs a:List Zac),(xs.foldl insF a).Perm (xs++a)
 | [],_ => .refl _
 | x::xs,a=>by
  rw[List.foldl_cons]
  refine(ZmF xs _).trans ?_
  refine((Zip x a).append_left xs).trans ?_
  exact List.perm_middle
theorem ZdY (l:List DRule)(least a:Int):∀ k,(ZeE l least a k).Perm (allC l least a k)
 | 0 => .refl _
 | k+1=>by
  rw[ZeE,allC,Zgf]
  refine(ZmF _ _).trans ?_
  refine List.perm_append_comm.trans ?_
  exact(ZdY l least a k).append_right _
def Zsp (l:List Zac):Prop:=l.Pairwise fun a b=>ltE a b=false
theorem ZmH (e:Zac):∀ l,Zsp l->Zsp (insE e l)
 | [],_=>List.pairwise_singleton _ _
 | x::l,h=>by
  obtain⟨g,i⟩:=List.pairwise_cons.1 h
  rw[insE]
  split
  ·rename_i c
   have f:ltE x e=true:=decide_eq_true c
   have d:ltE e x=false:=by
    cases h3:ltE e x
    ·rfl
    ·have:=swoE.trans x e x f h3
     rw[swoE.irrefl]at this
     cases this
   refine List.pairwise_cons.2 ⟨fun b a=>?_,h⟩
   rcases List.mem_cons.1 a with rfl|a
   ·exact d
   ·exact swoE.ntrans e x b d (g b a)
  ·rename_i c
   have f:ltE x e=false:=decide_eq_false c
   refine List.pairwise_cons.2 ⟨fun b a=>?_,ZmH e l i⟩
   rcases List.mem_cons.1 ((Zip e l).mem_iff.1 a) with rfl|a
   ·exact f
   ·exact g b a
theorem ZmG:∀ (xs a:List Zac),Zsp a->Zsp (xs.foldl insF a)
 | [],_,h=>h
 | x::xs,a,h=>ZmG xs _ (ZmH x a h)
theorem Zfv (l:List DRule)(least a:Int):∀ k,Zsp (ZeE l least a k)
 | 0=>List.Pairwise.nil
 | k+1=>by
  rw[ZeE,Zgf]
  exact ZmG _ _ (Zfv l least a k)
theorem Zwh (l:List DRule)(least d:Int)(k:Nat):(allC l least d k).mergeSort (fun x y => !ltE y x)=(ZeE l least d k).reverse:=by
 refine List.Perm.eq_of_pairwise (le:=fun x y=>(!ltE y x)=true) ?_ ?_ ?_ ?_
 ·intro a b _ _ e f
  simp only[Bool.not_eq_true']at e f
  exact totE a b f e
 ·refine List.pairwise_mergeSort ?_ ?_ _
  ·intro a b c e f
   simp only[Bool.not_eq_true']at e f ⊢
   exact swoE.ntrans c b a f e
  ·intro a b
   cases h:ltE b a with
   | false=>simp
   | true =>
    have:ltE a b=false:=by
     cases h3:ltE a b
     ·rfl
     ·have:=swoE.trans a b a h3 h
      rw[swoE.irrefl]at this
      cases this
    simp[this]
 ·rw[List.pairwise_reverse]
  exact(Zfv l least d k).imp fun h=>by rw[h];rfl
 ·exact(List.mergeSort_perm _ _).trans ((ZdY l least d k).symm.trans (List.reverse_perm _).symm)
def Zcy:List Zac->Option Zac
 | a::b::l=>if b.nominal - a.nominal<259200 then some b else Zcy (b::l)
 | _=>none
theorem ZiZ (x y:Zac):∀ l:List Zac,Zcy (l++[x,y])=(Zcy (l++[x])).or (if y.nominal - x.nominal<259200 then some y else none)
 | []=>by simp[Zcy]
 | [a]=>by
  simp only[List.cons_append,List.nil_append,Zcy]
  by_cases h:x.nominal - a.nominal<259200 <;> simp[h]
 | a::b::l=>by
  have c:=ZiZ x y (b::l)
  simp only[List.cons_append,Zcy]at c ⊢
  by_cases h:b.nominal - a.nominal<259200
  ·simp[h]
  ·simp only[if_neg h]
   exact c
theorem Zkl:∀ l:List Zac,Zcy l.reverse=Zha l
 | []=>rfl
 | [_]=>rfl
 | a::b::l=>by
  have c:=Zkl (b::l)
  rw[List.reverse_cons]at c
  rw[Zha,<- c,List.reverse_cons,List.reverse_cons,List.append_assoc]
  exact ZiZ b a l.reverse
theorem Znj (l:List DRule):Zcy ((allC l (Zag l) 1850 701).mergeSort fun x y => !ltE y x)=ZeD l:=by
 rw[Zwh,Zkl];rfl
end Go.Proofs.YtpipekfmecikmaaGreatDoor
namespace Go.Wk
open Go Go.RowKit
def beIn (least nominal:Int)(r:DRule)(i y:Int):Nat->Option Zac
 | 0=>none
 | k+1=>match onR least r i y with
  | some e=>if e.nominal<nominal then some e else beIn least nominal r i (y - 1) k
  | none=>beIn least nominal r i (y - 1) k
def Zfb (least nominal yr:Int):List DRule->Nat->Option Zac->Option Zac
 | [],_,best=>best
 | r::l,i,best =>
  Zfb least nominal yr l (i+1) (match beIn least nominal r i (min (lastY r) (yr+2)) 20 with
   | none=>best
   | some e=>match best with|none=>some e|some b=>if ordE b e<0 then some e else some b)
def befD (l:List DRule)(nominal:Int):Option Zac:=Zfb (Zag l) nominal (ZaE nominal) l 0 none
def fiIn (least:Int)(r:DRule)(i y:Int):Nat->Option Zac
 | 0=>none
 | k+1=>match onR least r i y with
  | some e=>some e
  | none=>fiIn least r i (y+1) k
def firL (least:Int):List DRule->Nat->List Zac
 | [],_=>[]
 | r::l,i=>(fiIn least r i (max r.from_ (-2000000000)) 9).toList++firL least l (i+1)
def dR0:DRule:=⟨ByteArray.empty,0,0,0,⟨0,0,0⟩,⟨0,0⟩,0,ByteArray.empty⟩
def ruE (l:List DRule)(e:Zac):DRule:=l.getD e.rule.toNat dR0
def fstB (l:List DRule)(all:Bool)(but:Int)(best:Option Zac)(e:Zac):Option Zac :=
 if (!all&&decide ((ruE l e).save=but))||(match best with|some b=>decide (b.nominal<=e.nominal)|none=>false) then best else some e
def fstD (l:List DRule)(all:Bool)(but:Int):Option Zac:=(firL (Zag l) l 0).foldl (fstB l all but) none
def behS (l:List DRule)(e:Zac):Int × ByteArray:=((ruE l e).save,(ruE l e).letter)
def iniS (l:List DRule):Int × ByteArray :=
 match fstD l true 0 with
 | none=>(0,ByteArray.empty)
 | some e=>match fstD l false (ruE l e).save with
  | some o=>behS l o
  | none=>behS l e
def befS (l:List DRule)(nominal:Int):Int × ByteArray :=
 match befD l nominal with
 | some e=>behS l e
 | none=>iniS l
def ZmE (l:List DRule)(e:Zac)(off:Int):Int :=
 if (ruE l e).at_.base=1 then e.nominal - max (Zag l) (-10800) - off
 else if (ruE l e).at_.base=0 then e.nominal - (befS l e.nominal).1 - off
 else e.nominal
theorem walkB1 {G G':Prop}(k:G')(h:Hold G'->G:=by intro k;(first|(apply Go.Wk.RL_pu;rfl;exact Go.Wk.PuA)|(apply Go.Wk.RL_st0;refine Go.Wk.stA ?_)|apply Go.Wk.W_seq|apply Go.Wk.W_region|apply Go.Wk.RL_nil|apply Go.Wk.thenQ_n|apply Go.Wk.W_skip|apply Go.Wk.W_ret|apply Go.Wk.W_exit|apply Go.Wk.thenQ_r|apply Go.Wk.thenQ_e|apply Go.Wk.blockQ_n|apply Go.Wk.blockQ_r|apply Go.Wk.blockQ_hit|(apply Go.Wk.blockQ_miss;rfl)|(apply Go.Wk.W_true;rfl)|(apply Go.Wk.W_false;rfl)|(apply Go.Wk.RL_yes;rfl;rfl;rfl)|(apply Go.Wk.RL_no;rfl;rfl;rfl;rfl;rfl)|(apply Go.Wk.W_draw;rfl;decide +kernel)|apply Go.Wk.RD_done|(apply Go.Wk.RD_Q;rfl;rfl;decide +kernel;rfl;rfl;exact Go.Wk.QyA)|(apply Go.Wk.RD_N;rfl;rfl;decide +kernel;rfl;rfl;rfl)|(apply Go.Wk.RD_A;rfl;rfl;decide +kernel;rfl;rfl;first|exact Go.Wk.Ay_alloc|exact Go.Wk.Ay_buildSlice0|(apply Go.Wk.Ay_buildSliceC;rfl;rfl;rfl;rfl;exact Go.Wk.NfA)|(apply Go.Wk.Ay_buildSliceNf;rfl;rfl;rfl;exact Go.Wk.NfA)));exact k.out):G:=h ⟨k⟩
theorem ZlS {G G':Prop}(k:G')(h:Hold G'->G:=by intro k;refine Go.Wk.walkB1 ?_;(repeat refine Go.Wk.walkB1 ?_);exact k.out):G:=h ⟨k⟩
end Go.Wk
