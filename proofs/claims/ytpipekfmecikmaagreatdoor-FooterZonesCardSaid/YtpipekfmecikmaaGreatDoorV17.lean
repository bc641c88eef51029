/- Parts of the proof. -/
import Derived.Test.YtpipekfmecikmaaGreatDoorV16
import Derived.Test.YtpipekfmecikmaaGreatDoorV08
import Derived.Test.YtpipekfmecikmaaGreatDoorV10
import Derived.Test.YtpipekfmecikmaaGreatDoorV13
set_option maxHeartbeats 4000000
set_option linter.unusedVariables false
set_option linter.unusedSimpArgs false
namespace Go.Proofs.YtpipekfmecikmaaGreatDoor
open Go Go.RowKit Go.Wk
attribute [local irreducible] W RL Does Zat Zaj retQ Calls Pu Stp RD Qy Ay Zak
theorem Zuy {G:Prop}(h:G:=by(apply Zb6;rfl;rfl;exact b1)):G:=h
theorem Zjo (off save:Int)(ho:I64 off)(hs:I64 save)(w:World):Does Tryz.prog 235 [.int .i64 off,.int .i64 save] w (fun v O=>v = .bool (Za0 off save)/\O=[]):=by
 have hsm:=fun w'=>Ziv off save ho hs w'
 refine Zaa Tryz.func235 rfl rfl rfl rfl ?_
 cases hok:ZcH (off+save) with
 | false =>
  rw[hok]at hsm
  have hb:Za0 off save=false:=by
   unfold Za0
   by_cases h1 : -54000<=off+save
   ·by_cases h2:off+save<=54000
    ·exfalso
     have:ZcH (off+save)=true:=by unfold ZcH;rw[decide_eq_true (by omega),decide_eq_true (by omega)];rfl
     rw[this]at hok
     cases hok
    ·rw[decide_eq_false h2,Bool.and_false]
   ·rw[decide_eq_false h1,Bool.false_and]
  rw[hb]
  repeat (first|refine und ?_|(refine js ?_;(refine Zab (fun w' hw=>hsm w') ?_))|refine walk ?_)
  exact rtA
 | true =>
  rw[hok,if_pos rfl]at hsm
  unfold Za0
  generalize off+save=x at *
  by_cases h1 : -54000<=x
  ·have b1:decide (-54000<=x)=true:=decide_eq_true h1
   rw[b1]
   repeat (first|refine und ?_|(apply RL_pu;rfl;exact Zuy)|(refine js ?_;(refine Zab (fun w' hw=>hsm w') ?_))|refine walk1 ?_)
   exact rtA
  ·have b1:decide (-54000<=x)=false:=decide_eq_false h1
   rw[b1]
   repeat (first|refine und ?_|(apply RL_pu;rfl;exact Zuy)|(refine js ?_;(refine Zab (fun w' hw=>hsm w') ?_))|refine walk1 ?_)
   exact rtA
theorem Zfz (Ar Az Al As:Option Addr)(cr cz cl cs:Nat)(a:DSource)(e:DEra)(w:World)(hA:Zar w Ar Az Al As cr cz cl cs a)(hn:a.rules.length<=1000000) :
  Does Tryz.prog 236 [srcV Ar Az Al As cr cz cl cs a,.agg e.enc.toArray] w (ZiP 68 11 DRule.enc (ZaE a.rules e)):=by
 have hof:=fun w' (hw:Bel w.heap.size w w')=>ZgY Ar Az Al As cr cz cl cs a e.set w' (hA.up hw) hn
 unfold ZaE
 obtain⟨off,kind,save,set,format,til⟩:=e
 dsimp only at hof ⊢
 simp only[DEra.enc]
 refine Zaa Tryz.func236 rfl rfl rfl rfl ?_
 by_cases hk:kind=2
 ·subst hk
  rw[if_pos rfl]
  generalize ofB a.rules set=R at *
  repeat (first|(refine js ?_;(first|(apply Zae (h:=fun w' hw _=>hof w' hw);rfl;rintro v O' ⟨A3,c3,rfl,rfl⟩)|(refine bx ?_;intro bk)))|refine walk ?_)
  exact ret_1 _ [.row (.slice A3 R.length c3) 68 11 R.length (R.flatMap DRule.enc)] (.tmp rfl) SOA ⟨A3,c3,rfl,rfl⟩
 ·rw[if_neg hk]
  have hb:(!decide (kind=2))=true:=by rw[decide_eq_false hk];rfl
  refine ZdN 68 11 ?_
  repeat (first|(apply RL_pu;rfl;(apply Zal;rfl;rfl;exact hb))|(refine js ?_;(refine bx ?_;intro bk))|refine walk1 ?_)
  exact ret_1 _ [.row (.slice none 0 0) 68 11 0 []] (.tmp rfl) SOA ⟨none,0,rfl,rfl⟩
def Za4 (x:Int × ByteArray):List Value:=[.int .i64 x.1,.string x.2]
theorem Za4.len (x:Int × ByteArray):(Za4 x).length=2:=rfl
structure StG where
 k:Nat
 A:Option Addr
 c:Nat
 m:Nat
 ys:List Value
def StR (l:List (Int × ByteArray))(v:Value)(O:List It):Prop:=ZiP 155 2 Za4 l v O\/∃ b x,l=[x]/\v = .slice (some ⟨b,0,none⟩) 1 1/\O=[.blk b (Za4 x) 155]
theorem Zux {G:Prop}(h:G:=by(apply Zan;rfl;rfl;exact b1)):G:=h
theorem Zk5 (Ar Az Al As:Option Addr)(cr cz cl cs:Nat)(a:DSource)(e:DEra)(w:World)(hA:Zar w Ar Az Al As cr cz cl cs a)(hn:a.rules.length<=1000000) :
  Does Tryz.prog 238 [srcV Ar Az Al As cr cz cl cs a,.agg e.enc.toArray] w (StR (ZaG a.rules e)):=by
 have hst:=fun w' (hw:Bel w.heap.size w w')=>Zfz Ar Az Al As cr cz cl cs a e w' (hA.up hw) hn
 have hRl:(ZaE a.rules e).length<=1000000:=by
  unfold ZaE
  split
  ·exact Nat.le_trans (ZhL _ _) hn
  ·exact Nat.zero_le _
 unfold ZaG
 generalize ZaE a.rules e=R at *
 obtain⟨off,kind,save,set,format,til⟩:=e
 dsimp only at hst ⊢
 simp only[DEra.enc]at hst ⊢
 refine Zaa Tryz.func238 rfl rfl rfl rfl ?_
 by_cases hk1:kind=1
 ·subst hk1
  rw[if_pos rfl]
  repeat (first|(refine js ?_;(refine bx ?_;intro bk))|refine walk ?_)
  exact ret_1 _ [.blk bk [.int .i64 save,.string ByteArray.empty] 155] (.tmp rfl) SOA (.inr ⟨bk,(save,ByteArray.empty),rfl,rfl,rfl⟩)
 have b1:decide (kind=1)=false:=decide_eq_false hk1
 rw[if_neg hk1]
 by_cases hk2:kind=2
 ·subst hk2
  rw[if_pos rfl]
  repeat (first|(apply RL_pu;rfl;exact Zux)|(refine js ?_;(first|(apply Zae (h:=fun w' hw _=>hst w' hw);rfl;rintro v O' ⟨A3,c3,rfl,rfl⟩)|(refine bx ?_;intro bk)))|refine walk1 ?_)
  refine ZdN 155 2 ?_
  refine Zai [(20,.slice A3 R.length c3),(21,.int .i64 R.length)] [.row (.slice A3 R.length c3) 68 11 R.length (R.flatMap DRule.enc)] (fun g:StG=>[(5,.slice g.A g.m g.c),(22,.int .i64 g.k)]) (fun g=>[.row (.slice g.A g.m g.c) 155 2 g.m g.ys])
   (fun g=>g.k<=R.length/\g.m=g.k/\g.ys=((R.take g.k).map fun r=>(r.save,r.letter)).flatMap Za4) (fun g=>R.length - g.k) ⟨0,none,0,0,[]⟩ SFA SOA ⟨Nat.zero_le _,rfl,rfl⟩ ?_
  rintro⟨k,A1,c1,m,ys⟩ ⟨hkl,hm,hy⟩
  dsimp only at hkl hm hy ⊢
  repeat (first|(refine js ?_;(refine bx ?_;intro bk))|refine walk ?_)
  refine Zaf rfl (fun hc=>?_) (fun hc=>?_)
  ·simp only[decide_eq_true_eq,Int.ofNat_lt]at hc
   have hg1:=Zao DRule.len R k _ 0 _ (List.getElem?_eq_getElem hc) rfl
   have hgn:∀ j v,(DRule.enc R[k])[j]?=some v->(R.flatMap DRule.enc)[k*11+j]?=some v:=fun j v hj=>Zao DRule.len R k _ j v (List.getElem?_eq_getElem hc) hj
   have htk:=List.take_append_getElem hc
   generalize R[k]=r at *
   simp only[DRule.enc]at hgn hg1
   repeat (first|(apply RL_pu;rfl;(first|(apply Zap;rfl;rfl;omega;omega;(intro w' _ hO;exact(ZaD (hO.of (A := .row (.slice A3 R.length c3) 68 11 R.length (R.flatMap DRule.enc)) (by repeat' constructor)) hg1).1))|(apply ZaS;rfl;(focus repeat' constructor);exact hgn;rfl)))|(refine js ?_;(first|(apply ZaT;rfl;rfl;(intro A' c';(focus repeat' constructor));(intro w' _ hO;exact Zcu (hO.of (by repeat' constructor)));rfl;rfl;(simp only[maxLen];omega);omega;intro A' c' hc1 hc2 hc3)|(refine bx ?_;intro bk)))|refine walk1 ?_)
   exact⟨⟨k+1,A',c',m+1,ys++[.int .i64 r.save,.string r.letter]⟩,OA,⟨OA,OA,by dsimp only;rw[hy,<- htk];simp[Za4]⟩,SFA,SOA⟩
  ·obtain rfl:k=R.length:=by simp only[decide_eq_false_iff_not,Int.ofNat_lt]at hc;omega
   rw[List.take_length]at hy
   subst hm hy
   repeat (first|(refine js ?_;(refine bx ?_;intro bk))|refine walk ?_)
   exact ret_1 _ [.row (.slice A1 R.length c1) 155 2 R.length ((R.map fun r=>(r.save,r.letter)).flatMap Za4)] (.tmp rfl) SOA (.inl ⟨A1,c1,by rw[List.length_map],by rw[List.length_map]⟩)
 have b2:decide (kind=2)=false:=decide_eq_false hk2
 rw[if_neg hk2]
 repeat (first|(apply RL_pu;rfl;(first|exact Zux|(apply Zan;rfl;rfl;exact b2)))|(refine js ?_;(refine bx ?_;intro bk))|refine walk1 ?_)
 exact ret_1 _ [.blk bk [.int .i64 0,.string ByteArray.empty] 155] (.tmp rfl) SOA (.inr ⟨bk,(0,ByteArray.empty),rfl,rfl,rfl⟩)
theorem Zhs (Ar Az Al As:Option Addr)(cr cz cl cs:Nat)(a:DSource)(e:DEra)(w:World)(hA:Zar w Ar Az Al As cr cz cl cs a)(hn:a.rules.length<=1000000) :
  Does Tryz.prog 238 [srcV Ar Az Al As cr cz cl cs a,.agg e.enc.toArray] w (ZiP 155 2 Za4 (ZaG a.rules e)) :=
 (Zk5 Ar Az Al As cr cz cl cs a e w hA hn).monoH fun v O base w' hR hH=>by
  rcases hR with h|⟨b,x,hl,rfl,rfl⟩
  ·exact⟨O,h,hH⟩
  ·rw[hl]
   exact⟨_,⟨some ⟨b,0,none⟩,1,rfl,rfl⟩,hH.toRow (m:=1) 2 rfl (by decide) (by simpa using Upd.here)⟩
end Go.Proofs.YtpipekfmecikmaaGreatDoor
namespace Go.Wk
open Go Go.RowKit
theorem ZpD {P:Program}{n:Nat}{wr:World}{fr:Fr}{O:List It}{ty t t':TypeId}{α:Type}[DecidableEq α]{enc:α->List Value}{x y:Operand}{i j:α}{b:Bool}[hE:EqE P t α enc](hx:ev fr x=some (.agg (enc i).toArray))(hy:ev fr y=some (.agg (enc j).toArray))(h:(!decide (i=j))=b) :
  Pu P n wr fr O (.binOp .neq t x y t') ty (.bool b):=h▸Pu_neqE hx hy
end Go.Wk
namespace Go.Proofs.YtpipekfmecikmaaGreatDoor
open Go Go.RowKit Go.Wk
attribute [local irreducible] W RL Does Zat Zaj retQ Calls Pu Stp RD Qy Ay Zak
theorem ZlM (A:Option Addr)(c:Nat)(l:List (Int × ByteArray))(f:FuncId)[Body Tryz.prog f](us cs:List Value)(p:Int × ByteArray->Bool)(w:World)(hA:RdSl w A c Za4 2 l)
  (hf:∀ r∈l,∀ w',Bel w.heap.size w w'->Does Tryz.prog f (us++[.agg (Za4 r).toArray]++cs) w' (fun v O=>v = .bool (p r)/\O=[])) :
  Does Tryz.prog 276 [.slice A l.length c,.func (.func f) us.toArray cs.toArray] w (fun v O=>v = .int .i64 (ZbL p l 0)/\O=[]):=by
 have hs1:=hA.le
 have hs2:=hA.cap
 unfold maxLen at hs2
 generalize hres:ZbL p l 0=res
 refine Zaa Tryz.func276 rfl rfl rfl rfl ?_
 repeat (first|refine walk ?_)
 refine Zai [(0,_),(1,_),(4,_),(7,_)] _ (fun k:Nat=>[(8,.int .i64 k)]) (fun _=>[]) (fun k=>k<=l.length/\ZbL p (l.drop k) k=res) (fun k=>l.length - k) 0 ⟨rfl,rfl,rfl,rfl,rfl,trivial⟩ (.refl _) ⟨by omega,by simpa using hres⟩ ?_
 rintro k ⟨hk,hi⟩
 repeat (first|refine walk ?_)
 refine Zaf rfl (fun hc=>?_) (fun hc=>?_)
 ·simp only[decide_eq_true_eq,Int.ofNat_lt]at hc
  obtain⟨hna,hca⟩:=hA.rd k _ (List.getElem?_eq_getElem hc)
  have hnb:=hna
  have hcb:=hca
  rw[Zag hc,ZbL]at hi
  have hrm:=List.getElem_mem hc
  generalize l[k]=r at *
  repeat (first|(apply RL_pu;rfl;exact PuI)|(refine js ?_;(refine ZfI (fun w' hw _=>hf r hrm w' hw) ?_))|refine walk1 ?_)
  refine Zaf rfl (fun h3=>?_) (fun h3=>?_)
  ·repeat (first|refine walk ?_)
   rw[if_pos h3]at hi
   exact ret_1 _ [] (.tmp rfl) .nil ⟨by rw[<- hi],rfl⟩
  repeat (first|refine walk ?_)
  rw[h3]at hi
  exact⟨k+1,by omega,⟨by omega,hi⟩,SFA,SOA⟩
 simp only[decide_eq_false_iff_not,Int.ofNat_lt]at hc
 repeat (first|refine walk ?_)
 exact ret_1 _ [] (.tmp rfl) .nil ⟨by rw[<- hi,List.drop_eq_nil_of_le (by omega)];rfl,rfl⟩
theorem Zil (A:Option Addr)(c:Nat)(l:List (Int × ByteArray))(f:FuncId)[Body Tryz.prog f](us cs:List Value)(p:Int × ByteArray->Bool)(w:World)(hA:RdSl w A c Za4 2 l)
  (hf:∀ r∈l,∀ w',Bel w.heap.size w w'->Does Tryz.prog f (us++[.agg (Za4 r).toArray]++cs) w' (fun v O=>v = .bool (p r)/\O=[])) :
  Does Tryz.prog 237 [.slice A l.length c,.func (.func f) us.toArray cs.toArray] w (fun v O=>v = .bool (l.any p)/\O=[]):=by
 have h:=fun w' (hw:Bel w.heap.size w w')=>ZlM A c l f us cs p w' (hA.up hw) fun r hr w2 h2=>hf r hr w2 (hw.trans (h2.mono hw.size))
 rw[<- Zic p l 0]
 generalize ZbL p l 0=k at *
 refine Zaa Tryz.func237 rfl rfl rfl rfl ?_
 repeat (first|(refine js ?_;(refine Zab h ?_))|refine walk ?_)
 exact rtA
theorem ZsB (x:Int × ByteArray)(ad:Addr)(off:Int)(w:World)(h:w.cell? ad=some (.int .i64 off))(ho:I64 off)(hx:I64 x.1):Does Tryz.prog 234 [.agg (Za4 x).toArray,.pointer (some ad)] w (fun v O=>v = .bool (!Za0 off x.1)/\O=[]):=by
 obtain⟨sv,lt⟩:=x
 dsimp only at hx ⊢
 have hh:=fun w'=>Zjo off sv ho hx w'
 generalize Za0 off sv=hb at *
 simp only[Za4]
 refine Zaa Tryz.func234 rfl rfl rfl rfl ?_
 repeat (first|(apply RL_pu;rfl;(apply Pu_loadO1;rfl;exact h))|(refine js ?_;(first|(refine Zab (fun w' hw=>hh w') ?_)|(refine bx ?_;intro bk)))|refine walk1 ?_)
 exact rtA
instance : EqE Tryz.prog 73 DUntil DUntil.enc where
 h r s w:=by
  unfold DUntil.enc
  simp[go_sem,Zc9]
  rcases r with⟨_,_,_,⟨_,_,_⟩,⟨_,_⟩⟩
  rcases s with⟨_,_,_,⟨_,_,_⟩,⟨_,_⟩⟩
  simp only[Zlu,Result.ok.injEq,and_true]
  rw[Bool.eq_iff_iff]
  simp[and_assoc]
 g:=by kernel_rfl
theorem ZmS (e:DEra)(w:World):Does Tryz.prog 239 [.agg e.enc.toArray] w (fun v O=>v = .bool (Zc2 e)/\O=[]):=by
 obtain⟨off,kind,save,set,format,til⟩:=e
 unfold Zc2
 dsimp only
 obtain⟨is,year,month,⟨dk,dw,dd⟩,⟨cs,cb⟩⟩:=til
 dsimp only
 obtain⟨n1,e1⟩:∃ b,(!decide (kind=1))=b:=⟨_,rfl⟩
 obtain⟨n2,e2⟩:∃ b,(!decide (save=0))=b:=⟨_,rfl⟩
 obtain⟨n3,e3⟩:∃ b,(!decide (kind=2))=b:=⟨_,rfl⟩
 obtain⟨n4,e4⟩:∃ b,(!decide (set=ByteArray.empty))=b:=⟨_,rfl⟩
 obtain⟨n5,e5⟩:∃ b,(!decide ((⟨false,year,month,⟨dk,dw,dd⟩,⟨cs,cb⟩⟩:DUntil)=dU0))=b:=⟨_,rfl⟩
 rw[e1,e2,e3,e4,e5]
 simp only[DEra.enc]
 refine Zaa Tryz.func239 rfl rfl rfl rfl ?_
 repeat' (first|(apply RL_pu;rfl;(first|(apply Zal;rfl;rfl;exact e1)|(apply Zal;rfl;rfl;exact e2)|(apply Zal;rfl;rfl;exact e3)|(apply Zcc;rfl;rfl;exact e4)|(apply ZpD (i:=(⟨false,year,month,⟨dk,dw,dd⟩,⟨cs,cb⟩⟩:DUntil)) (j:=dU0) (enc:=DUntil.enc);rfl;rfl;exact e5)))|(refine js ?_;(refine bx ?_;intro bk))|refine walk1 ?_|refine und ?_|(refine Zam rfl rfl rfl (fun hc=>?_) (fun hc=>?_))|(refine Zas rfl rfl rfl (fun hc=>?_) (fun hc=>?_))|(refine Zaf rfl (fun hc=>?_) (fun hc=>?_)))
 all_goals exact clo1
end Go.Proofs.YtpipekfmecikmaaGreatDoor
namespace Go.Wk
open Go Go.RowKit
section
variable {κ:Type}
def cent (kv:κ->Value):Nat->List (κ × Int)->List MapEntry
 | _,[]=>[]
 | i,x::l=>⟨kv x.1,.int .i64 x.2,i⟩::cent kv (i+1) l
def Zgs (l:List (κ × Int))(t:Nat):Prop:=∀ x∈l,1<=x.2/\x.2<=(t:Int)
theorem Zgs.nil (t:Nat):Zgs ([]:List (κ × Int)) t:=fun _ h=>by cases h
theorem Zpf (kv:κ->Value):∀ (i:Nat) (l:List (κ × Int)),(cent kv i l).length=l.length
 | _,[]=>rfl
 | i,x::l=>by unfold cent;rw[List.length_cons,List.length_cons,Zpf kv (i+1) l]
theorem Zph (kv:κ->Value):∀ (i:Nat) (a b:List (κ × Int)),cent kv i (a++b)=cent kv i a++cent kv (i+a.length) b
 | _,[],_=>rfl
 | i,x::a,b=>by
  rw[List.cons_append]
  unfold cent
  rw[Zph kv (i+1) a b,List.cons_append,List.length_cons,show i+1+a.length=i+(a.length+1) by omega]
  cases b <;> rfl
theorem Zpg (kv:κ->Value):∀ (i:Nat) (l:List (κ × Int)) (s:Nat),s<l.length->(cent kv i l).findIdx? (fun e=>(e.born:Int)==((i+s:Nat):Int))=some s
 | _,[],_,h=>by simp at h
 | i,x::l,0,_=>by unfold cent;rw[List.findIdx?_cons];simp
 | i,x::l,s+1,h=>by
  unfold cent
  rw[List.findIdx?_cons]
  have hne:((i:Int)==((i+(s+1):Nat):Int))=false:=by simp;omega
  dsimp only
  rw[hne]
  have:=Zpg kv (i+1) l s (by simpa using h)
  rw[show i+1+s=i+(s+1) by omega]at this
  rw[this]
  rfl
def cmIt (kv:κ->Value)(b:Nat)(l:List (κ × Int)):It := .fact (fun i=>i=b) fun w=>w.heap[b]?=some (.map (cent kv 0 l).toArray l.length)
theorem cmIt.heap {kv:κ->Value}{b:Nat}{l:List (κ × Int)}{w:World}(h:(cmIt kv b l).sat w):w.heap[b]?=some (.map (cent kv 0 l).toArray l.length):=h w fun _ _=>rfl
theorem cmIt.mk {kv:κ->Value}{b:Nat}{l:List (κ × Int)}{w:World}(h:w.heap[b]?=some (.map (cent kv 0 l).toArray l.length)):(cmIt kv b l).sat w:=fun _ ha=>(ha b rfl).trans h
end
section
variable {κ:Type}[DecidableEq κ]
def ZvB (k:κ):List (κ × Int)->Nat->Option (Nat × Value)
 | [],_=>none
 | x::l,i=>if k=x.1 then some (i,.int .i64 x.2) else ZvB k l (i+1)
def cget (k:κ):List (κ × Int)->Int
 | []=>0
 | x::l=>if k=x.1 then x.2 else cget k l
def cins (k:κ):List (κ × Int)->List (κ × Int)
 | []=>[(k,0)]
 | x::l=>if k=x.1 then x::l else x::cins k l
def cidx (k:κ):List (κ × Int)->Nat
 | []=>0
 | x::l=>if k=x.1 then 0 else cidx k l+1
def cput (k:κ)(v:Int):List (κ × Int)->List (κ × Int)
 | []=>[]
 | x::l=>if k=x.1 then (k,v)::l else x::cput k v l
theorem ZkD (k:κ):∀ (l:List (κ × Int)) (i:Nat),ZvB k l i=if k∈l.map (·.1) then some (i+cidx k l,.int .i64 (cget k l)) else none
 | [],_=>rfl
 | x::l,i=>by
  unfold ZvB cidx cget
  by_cases h:k=x.1
  ·rw[if_pos h,if_pos h,if_pos h,if_pos (by rw[h];simp)];rfl
  ·rw[if_neg h,if_neg h,if_neg h,ZkD k l (i+1)]
   by_cases hm:k∈l.map (·.1)
   ·rw[if_pos hm,if_pos (show k∈(x::l).map (·.1) from List.mem_cons_of_mem _ hm)]
    congr 2
    omega
   ·rw[if_neg hm,if_neg (show k ∉ (x::l).map (·.1) from fun hh=>(List.mem_cons.1 hh).elim h hm)]
theorem ZkC (k:κ):∀ l:List (κ × Int),k∈l.map (·.1)->cins k l=l
 | [],h=>by cases h
 | x::l,h=>by
  unfold cins
  by_cases e:k=x.1
  ·rw[if_pos e]
  ·rw[if_neg e,ZkC k l ((List.mem_cons.1 h).resolve_left e)]
theorem Zg5 (k:κ):∀ l:List (κ × Int),k ∉ l.map (·.1)->cins k l=l++[(k,0)]
 | [],_=>rfl
 | x::l,h=>by
  unfold cins
  rw[if_neg (fun e=>h (by rw[e];simp)),Zg5 k l (fun e=>h (List.mem_cons_of_mem _ e))]
  rfl
theorem Zpd (k:κ):∀ l:List (κ × Int),k ∉ l.map (·.1)->cidx k l=l.length
 | [],_=>rfl
 | x::l,h=>by
  unfold cidx
  rw[if_neg (fun e=>h (by rw[e];simp)),Zpd k l (fun e=>h (List.mem_cons_of_mem _ e))]
  rfl
theorem ZdL (k:κ):∀ l:List (κ × Int),k ∉ l.map (·.1)->cget k l=0
 | [],_=>rfl
 | x::l,h=>by
  unfold cget
  rw[if_neg (fun e=>h (by rw[e];simp)),ZdL k l (fun e=>h (List.mem_cons_of_mem _ e))]
theorem ZnV (k:κ):∀ l:List (κ × Int),k∈l.map (·.1)->(k,cget k l)∈l
 | [],h=>by cases h
 | x::l,h=>by
  unfold cget
  by_cases e:k=x.1
  ·rw[if_pos e,e];exact List.mem_cons_self
  ·rw[if_neg e]
   exact List.mem_cons_of_mem _ (ZnV k l ((List.mem_cons.1 h).resolve_left e))
theorem Zl7 (k:κ):∀ l:List (κ × Int),cidx k (cins k l)=cidx k l
 | []=>by simp[cins,cidx]
 | x::l=>by
  unfold cins
  by_cases e:k=x.1
  ·rw[if_pos e]
  ·rw[if_neg e];unfold cidx;rw[if_neg e,if_neg e,Zl7 k l]
theorem ZkB (k:κ):∀ l:List (κ × Int),k∈(cins k l).map (·.1)
 | []=>by simp[cins]
 | x::l=>by
  unfold cins
  by_cases e:k=x.1
  ·rw[if_pos e,e];simp
  ·rw[if_neg e];exact List.mem_cons_of_mem _ (ZkB k l)
theorem Zik (k:κ)(v:Int):∀ l:List (κ × Int),(cput k v l).map (·.1)=l.map (·.1)
 | []=>rfl
 | x::l=>by
  unfold cput
  by_cases e:k=x.1
  ·rw[if_pos e,e];rfl
  ·rw[if_neg e,List.map_cons,List.map_cons,Zik k v l]
theorem Zvy (k:κ)(v:Int)(l:List (κ × Int)):(cput k v l).length=l.length:=by
 have:=congrArg List.length (Zik k v l)
 simpa using this
theorem Zl8 (k:κ)(v:Int):∀ l:List (κ × Int),k∈l.map (·.1)->cget k (cput k v l)=v
 | [],h=>by cases h
 | x::l,h=>by
  unfold cput
  by_cases e:k=x.1
  ·rw[if_pos e];unfold cget;rw[if_pos rfl]
  ·rw[if_neg e];unfold cget;rw[if_neg e,Zl8 k v l ((List.mem_cons.1 h).resolve_left e)]
theorem Zl9 (k:κ):∀ l:List (κ × Int),cget k (cins k l)=cget k l
 | []=>by simp[cins,cget]
 | x::l=>by
  unfold cins
  by_cases e:k=x.1
  ·rw[if_pos e]
  ·rw[if_neg e];unfold cget;rw[if_neg e,if_neg e,Zl9 k l]
theorem Zpc (k:κ)(v:Int):∀ (l:List (κ × Int)) (x:κ × Int),x∈cput k v l->x∈l\/x=(k,v)
 | [],_,h=>by cases h
 | y::l,x,h=>by
  unfold cput at h
  by_cases e:k=y.1
  ·rw[if_pos e]at h
   rcases List.mem_cons.1 h with h|h
   ·exact .inr h
   ·exact .inl (List.mem_cons_of_mem _ h)
  ·rw[if_neg e]at h
   rcases List.mem_cons.1 h with h|h
   ·exact .inl (h▸List.mem_cons_self)
   ·rcases Zpc k v l x h with h|h
    ·exact .inl (List.mem_cons_of_mem _ h)
    ·exact .inr h
def cinc (k:κ)(l:List (κ × Int)):List (κ × Int):=cput k (cget k l+1) (cins k l)
theorem Zl6 (k:κ)(l:List (κ × Int)):(cinc k l).map (·.1)=if k∈l.map (·.1) then l.map (·.1) else l.map (·.1)++[k]:=by
 unfold cinc
 rw[Zik]
 by_cases h:k∈l.map (·.1)
 ·rw[if_pos h,ZkC k l h]
 ·rw[if_neg h,Zg5 k l h];simp
theorem Zgs.get {l:List (κ × Int)}{t:Nat}(h:Zgs l t)(k:κ):0<=cget k l/\cget k l<=(t:Int):=by
 by_cases hm:k∈l.map (·.1)
 ·have:=h _ (ZnV k l hm);dsimp only at this;omega
 ·rw[ZdL k l hm];omega
theorem Zgs.new {l:List (κ × Int)}{t:Nat}(h:Zgs l t)(k:κ):cget k l+1=1↔k ∉ l.map (·.1):=by
 constructor
 ·intro e hm
  have:=h _ (ZnV k l hm);dsimp only at this;omega
 ·intro hm;rw[ZdL k l hm];rfl
theorem Zgs.inc {l:List (κ × Int)}{t:Nat}(h:Zgs l t)(k:κ):Zgs (cinc k l) (t+1):=by
 have hg:=h.get k
 intro x hx
 by_cases hm:k∈l.map (·.1)
 ·unfold cinc at hx
  rw[ZkC k l hm]at hx
  rcases Zpc k _ _ x hx with hx|rfl
  ·have:=h x hx;omega
  ·dsimp only;omega
 ·unfold cinc at hx
  rw[Zg5 k l hm]at hx
  have hx2:x∈l\/x=(k,cget k l+1):=by
   clear hg h
   induction l with
   | nil=>simp[cput]at hx;exact .inr (by simpa[cget] using hx)
   | cons y l ih =>
    have hne:k≠y.1:=fun e=>hm (by rw[e];simp)
    have hml:k ∉ l.map (·.1):=fun e=>hm (List.mem_cons_of_mem _ e)
    rw[ZdL k _ hm]at hx ⊢
    rw[ZdL k l hml]at ih
    rw[List.cons_append]at hx
    unfold cput at hx
    rw[if_neg hne]at hx
    rcases List.mem_cons.1 hx with hx|hx
    ·exact .inl (hx▸List.mem_cons_self)
    ·rcases ih hx hml with h|h
     ·exact .inl (List.mem_cons_of_mem _ h)
     ·exact .inr h
  rcases hx2 with hx|rfl
  ·have:=h x hx;omega
  ·dsimp only;omega
theorem ZsP (kv:κ->Value)(k:κ):∀ (i:Nat) (l:List (κ × Int)),k∈l.map (·.1)->(cent kv i l)[cidx k l]?=some ⟨kv k,.int .i64 (cget k l),i+cidx k l⟩
 | _,[],h=>by cases h
 | i,x::l,h=>by
  unfold cent cidx cget
  by_cases e:k=x.1
  ·rw[if_pos e,if_pos e,e];rfl
  ·rw[if_neg e,if_neg e,List.getElem?_cons_succ,ZsP kv k (i+1) l ((List.mem_cons.1 h).resolve_left e)]
   congr 2
   omega
theorem ZsL (k:κ):∀ l:List (κ × Int),k∈l.map (·.1)->cidx k l<l.length
 | [],h=>by cases h
 | x::l,h=>by
  unfold cidx
  by_cases e:k=x.1
  ·rw[if_pos e];simp
  ·rw[if_neg e,List.length_cons]
   have:=ZsL k l ((List.mem_cons.1 h).resolve_left e)
   omega
theorem Zpe (kv:κ->Value)(k:κ)(v:Int):∀ (i:Nat) (l:List (κ × Int)),k∈l.map (·.1)->(cent kv i l).modify (cidx k l) (fun e=>{ e with val := .int .i64 v })=cent kv i (cput k v l)
 | _,[],h=>by cases h
 | i,x::l,h=>by
  unfold cidx cput
  by_cases e:k=x.1
  ·rw[if_pos e,if_pos e,e];rfl
  ·rw[if_neg e,if_neg e]
   unfold cent
   rw[List.modify_succ_cons,Zpe kv k v (i+1) l ((List.mem_cons.1 h).resolve_left e)]
end
class KeyT (P:Program) (kt:TypeId) (κ:outParam Type) [DecidableEq κ] (kv:outParam (κ->Value)):Prop where
 ask:∀ (k:κ) (l:List (κ × Int)) (w:World),(Instr.findKey kt (kv k) (cent kv 0 l)).run P w = .ok (ZvB k l 0) w
 chk:∀ (b:Bool) (k:κ) (w:World),(Instr.checkKey b 10000 kt (kv k)).run P w = .ok () w
 stay:∀ (k:κ) (w:World),(Instr.keyThatStays (kv k) (kv k)).run P w = .ok (kv k) w
section
variable {κ:Type}{kv:κ->Value}
variable {P:Program}{n:Nat}{wr:World}{fr:Fr}{O:List It}{ty:TypeId}{pos:String}{af:Array Edge}{dst:Option Tmp}{g:Option (Nat × Bool)}{Kp:Value->List It->Prop}
theorem setC {a:Act}{w:World}{b:Nat}{l l':List (κ × Int)}{O':List It}(hs:St n wr fr O a w)(hu:Upd O (cmIt kv b l) (cmIt kv b l') O') :
  Bel wr.heap.size wr { w with heap:=w.heap.setIfInBounds b (.map (cent kv 0 l').toArray l'.length) }/\ZaA wr.heap.size O' { w with heap:=w.heap.setIfInBounds b (.map (cent kv 0 l').toArray l'.length) }:=by
 have hin:=hs.own.inb _ hu.mem b rfl
 refine⟨hs.old.trans ⟨⟨rfl,rfl,rfl,by simp,fun i hi=>Zdx (by omega)⟩⟩,hs.own.upd hu hs.old.size (by simp) (fun i _ hi=>Zdx hi) (cmIt.mk ?_) fun i hi => .inl hi⟩
 simp[Array.getElem?_setIfInBounds,hin.2]
theorem Zs6 {t:TypeId}(kv:κ->Value)(k:∀ b,Kp (.map (some b)) (cmIt kv b []::O)):Stp P n wr fr O ⟨dst,.makeMap t none,ty,pos,af,g⟩ Kp :=
 ZbG fun a w hs=>by
  have hB:Bel w.heap.size w (w.alloc (.map #[] 0)):=(Bel.refl _ _).alloc (Nat.le_refl _) _
  refine⟨.map (some w.heap.size),w.alloc (.map #[] 0),_,?_,hs.old.trans (hB.mono hs.old.size),hs.own.grow (O':=[cmIt kv w.heap.size []]) hB hs.old.size ⟨fun i hi=>?_,fun i hi b hb=>?_,List.pairwise_singleton _ _⟩,k _⟩
  ·simp only[execOp,Option.map_none,Sem.run_bind,run_makeMap (P:=P) t w,Result.andThen_ok,Sem.run_pure]
  ·rw[List.mem_singleton.1 hi]
   exact cmIt.mk (heap_alloc_new w _)
  ·rw[List.mem_singleton.1 hi]at hb
   simp only[It.S,cmIt]at hb
   subst hb
   exact⟨Nat.le_refl _,by simp⟩
theorem Zy0 {t kt et b:Nat}{x:Operand}{l:List (κ × Int)}{R:List It}[hM:MapT P t kt et](hx:ev fr x=some (.map (some b)))(hp:Pick (cmIt kv b l) O R) :
  Pu P n wr fr O (.call ⟨.builtin .len,#[x],#[t]⟩) ty (.int .i64 l.length):=fun a w hs _ _ _ _=>by
 have h1:=cmIt.heap (hs.own.sat _ (hp.perm.mem_iff.2 List.mem_cons_self))
 have hu:=run_underlying (w:=w) (MapT.parts hM.h)
 have hx':=hs.sim.ev hx
 simp[execOp,resolve,invoke,builtin,Builtin.len_,hx',hu,Zbd (P:=P) h1,goInt,Zpf]
end
section
variable {κ:Type}[DecidableEq κ]{kv:κ->Value}
variable {P:Program}{n:Nat}{wr:World}{fr:Fr}{O:List It}{ty:TypeId}{pos:String}{af:Array Edge}{dst:Option Tmp}{g:Option (Nat × Bool)}{Kp:Value->List It->Prop}
theorem ZrB {t kt et b:Nat}{l:List (κ × Int)}{w:World}[hM:MapT P t kt et][hK:KeyT P kt κ kv][ZeroV P et (.int .i64 0)](h:(cmIt kv b l).sat w)(k:κ):(Instr.lookup t (.map (some b)) (kv k) false).run P w = .ok (.int .i64 (cget k l)) w:=by
 have h1:=cmIt.heap h
 have hu:=run_underlying (w:=w) (MapT.parts hM.h)
 have ha:=hK.ask k l w
 have hz:=Zfr (P:=P) (t:=et) (v := .int .i64 0) (w:=w)
 have hc:=fun b=>hK.chk b k w
 obtain⟨es,he⟩:∃ es:Array MapEntry,es=(cent kv 0 l).toArray:=⟨_,rfl⟩
 rw[<- he]at h1
 have hl:es.toList=cent kv 0 l:=by rw[he]
 simp only[Instr.lookup,Sem.run_bind,hu,Result.andThen_ok,Zbd (P:=P) h1,Sem.run_pure,hc,hl,ha]
 rw[ZkD]
 by_cases hm:k∈l.map (·.1)
 ·rw[if_pos hm]
  simp
 ·rw[if_neg hm,ZdL k l hm]
  simp[hz]
theorem ZvQ {t kt et b:Nat}{x ix:Operand}{l:List (κ × Int)}{k:κ}{v:Int}{R:List It}[hM:MapT P t kt et][hK:KeyT P kt κ kv][ZeroV P et (.int .i64 0)](hx:ev fr x=some (.map (some b)))(hi:ev fr ix=some (kv k))(hp:Pick (cmIt kv b l) O R)(hv:cget k l=v) :
  Pu P n wr fr O (.lookup t x ix false) ty (.int .i64 v):=fun a w hs _ _ _ _=>by
 have:=ZrB (P:=P) (t:=t) (kt:=kt) (et:=et) (hs.own.sat _ (hp.perm.mem_iff.2 List.mem_cons_self)) k
 simp only[execOp,hs.sim.ev hx,hs.sim.ev hi,Sem.run_bind,this,Result.andThen_ok,Sem.run_pure,hv]
theorem Zqc {t kt et b:Nat}{l:List (κ × Int)}{w:World}[hM:MapT P t kt et][hK:KeyT P kt κ kv][ZeroV P et (.int .i64 0)](h:(cmIt kv b l).sat w)(k:κ):(Instr.mapEntry t (.map (some b)) (kv k)).run P w =
  .ok (.tuple #[.int .i64 (cget k l),.int .i64 (cidx k l)]) { w with heap:=w.heap.setIfInBounds b (.map (cent kv 0 (cins k l)).toArray (cins k l).length) }:=by
 have h1:=cmIt.heap h
 have hu:=run_underlying (w:=w) (MapT.parts hM.h)
 have ha:=hK.ask k l w
 have hz:=Zfr (P:=P) (t:=et) (v := .int .i64 0) (w:=w)
 have hc:=fun b=>hK.chk b k w
 have hst:=hK.stay k w
 obtain⟨es,he⟩:∃ es:Array MapEntry,es=(cent kv 0 l).toArray:=⟨_,rfl⟩
 rw[<- he]at h1
 have hl:es.toList=cent kv 0 l:=by rw[he]
 simp only[Instr.mapEntry,Sem.run_bind,hu,Result.andThen_ok,Zbd (P:=P) h1,Sem.run_pure,hc,hl,ha]
 rw[ZkD]
 by_cases hm:k∈l.map (·.1)
 ·rw[if_pos hm,ZkC k l hm]
  have hat:=ZsP kv k 0 l hm
  rw[Nat.zero_add]at hat
  have hej:es[0+cidx k l]?=some ⟨kv k,.int .i64 (cget k l),cidx k l⟩:=by
   rw[he,Nat.zero_add]
   simpa using hat
  have hmod:(es.modify (0+cidx k l) fun e=>({ key:=kv k,val:=e.val,born:=e.born }:MapEntry))=es:=by
   apply Array.ext_getElem?
   intro i
   rw[Array.getElem?_modify]
   split
   ·rename_i hij
    subst hij
    rw[hej]
    rfl
   ·rfl
  have hke:(Option.map (fun x:MapEntry=>x.key) es[0+cidx k l]?).getD (kv k)=kv k:=by rw[hej];rfl
  simp only[hke,Sem.run_bind,hst,Result.andThen_ok,hmod,<- he]
  rw[Nat.zero_add]at hej ⊢
  simp[setObj,Sem.run,h1,goInt,hej]
 ·rw[if_neg hm,Zg5 k l hm,Zpd k l hm,ZdL k l hm]
  have hp:(es.push { key:=kv k,val := .int .i64 0,born:=l.length })=(cent kv 0 (l++[(k,0)])).toArray:=by
   rw[he,Zph,Nat.zero_add]
   simp[cent]
  rw[<- hp]
  simp[hz,setObj,Sem.run,h1,goInt]
theorem Zqb {t b:Nat}{l:List (κ × Int)}{w:World}{s:Nat}(h:(cmIt kv b l).sat w)(k:κ)(v:Int)(hk:k∈l.map (·.1))(hs:cidx k l=s):(Instr.entryStore t (.map (some b)) (.int .i64 s) (.int .i64 v)).run P w =
  .ok () { w with heap:=w.heap.setIfInBounds b (.map (cent kv 0 (cput k v l)).toArray (cput k v l).length) }:=by
 have h1:=cmIt.heap h
 have h2:=Zpg kv 0 l s (hs▸ZsL k l hk)
 rw[Nat.zero_add]at h2
 have h3:=Zpe kv k v 0 l hk
 rw[hs]at h3
 have hfi:((cent kv 0 l).toArray.findIdx? fun e=>(e.born:Int)==(s:Int))=some s:=by rw[List.findIdx?_toArray];exact h2
 simp only[Instr.entryStore,Sem.run_bind,Result.andThen_ok,Zbd (P:=P) h1,Sem.run_pure,asInt,asIntOf,Sem.run_map,hfi]
 rw[<- h3,Zvy]
 simp[setObj,Sem.run,h1]
theorem ZeP {t kt et b:Nat}{x ix:Operand}{l:List (κ × Int)}{k:κ}{O':List It}[hM:MapT P t kt et][hK:KeyT P kt κ kv][ZeroV P et (.int .i64 0)](hx:ev fr x=some (.map (some b)))(hi:ev fr ix=some (kv k))(hu:Upd O (cmIt kv b l) (cmIt kv b (cins k l)) O')
  (kk:Kp (.tuple #[.int .i64 (cget k l),.int .i64 (cidx k l)]) O'):Stp P n wr fr O ⟨dst,.mapEntry t x ix,ty,pos,af,g⟩ Kp:=by
 refine ZbG ?_
 intro a w hs
 have hst:=setC hs hu
 have hr:=Zqc (P:=P) (t:=t) (kt:=kt) (et:=et) (hs.own.sat _ hu.mem) k
 refine⟨_,_,O',?_,hst.1,hst.2,kk⟩
 simp only[execOp,hs.sim.ev hx,hs.sim.ev hi,Sem.run_bind,hr,Result.andThen_ok,Sem.run_pure]
theorem ZeO {t b:Nat}{x sx y:Operand}{l:List (κ × Int)}{k:κ}{v:Int}{O':List It}(hx:ev fr x=some (.map (some b)))(hsx:ev fr sx=some (.int .i64 (cidx k l)))(hy:ev fr y=some (.int .i64 v))(hu:Upd O (cmIt kv b (cins k l)) (cmIt kv b (cput k v (cins k l))) O')
  (kk:Kp undef O'):Stp P n wr fr O ⟨dst,.entryStore t x sx y,ty,pos,af,g⟩ Kp :=
 Zg9 fun a w hst=>by
  have h2:=setC hst hu
  refine⟨_,O',?_,h2.1,h2.2,kk⟩
  have:=Zqb (P:=P) (t:=t) (hst.own.sat _ hu.mem) k v (ZkB k l) (Zl7 k l)
  simp only[execOp,hst.sim.ev hx,hst.sim.ev hsx,hst.sim.ev hy,Sem.run_bind,this,Result.andThen_ok,Sem.run_pure]
end
end Go.Wk
namespace Go.Proofs.YtpipekfmecikmaaGreatDoor
open Go Go.RowKit Go.Wk
def bz (l:List UInt8):ByteArray:=⟨l.toArray⟩
theorem Zpi {a b:List UInt8}(h:bz a=bz b):a=b:=by
 have:=congrArg (fun x:ByteArray=>x.data.toList) h
 simpa[bz] using this
theorem ZsQ (l:List UInt8):(bz l).size=l.length:=by simp[bz,ByteArray.size]
def pz (x:Int × List UInt8):Int × ByteArray:=(x.1,bz x.2)
theorem Zzg {a b:Int × List UInt8}(h:pz a=pz b):a=b:=by
 obtain⟨a1,a2⟩:=a
 obtain⟨b1,b2⟩:=b
 simp only[pz,Prod.mk.injEq]at h
 rw[h.1,Zpi h.2]
theorem Zr8 {α β:Type}{f:α->β}(hf:∀ {a b},f a=f b->a=b){x:α}{l:List α}:f x∈l.map f↔x∈l :=
 ⟨fun h=>by obtain⟨y,hy,e⟩:=List.mem_map.1 h;exact hf e▸hy,fun h=>List.mem_map.2 ⟨x,h,rfl⟩⟩
theorem ZfN {l:List UInt8}(h:Zbq l=true):l.length<=6:=by
 unfold Zbq ZbK at h
 simp only[Bool.and_eq_true,decide_eq_true_eq]at h
 exact h.1.2
theorem ZeH {l:List UInt8}(h:(ZaY l).isSome=true):l.length<=7:=by
 unfold ZaY at h
 cases hg:ZcG l [3600,60,1] 0 0 with
 | none=>rw[hg]at h;cases h
 | some o =>
  rw[hg]at h
  dsimp only at h
  by_cases hh:(l.isEmpty=true\/ZaL (if l.head?=some 45 then -o else o)≠l)
  ·rw[if_pos hh]at h;cases h
  ·have:ZaL (if l.head?=some 45 then -o else o)=l:=Decidable.of_not_not fun hn=>hh (.inr hn)
   rw[<- this]
   exact Zd5 _
theorem Zzq {f:List UInt8}(h:Za6 f=1):Zbq f=true:=by
 unfold Za6 at h
 dsimp only at h
 split at h
 ·assumption
 ·repeat' split at h
  all_goals cases h
theorem Zyi {f a b:List UInt8}(h:Za6 f=2)(hc:Zbg [47] f []=some (a,b)):a.length<=6/\b.length<=6:=by
 unfold Za6 at h
 dsimp only at h
 rw[hc]at h
 dsimp only at h
 split at h
 ·cases h
 ·split at h
  ·rename_i h2
   rw[Bool.and_eq_true]at h2
   exact⟨ZfN h2.1,ZfN h2.2⟩
  ·repeat' split at h
   all_goals cases h
theorem Zzo {f:List UInt8}(h:Za6 f=5):((ZaY f).isSome||(match Zbg [47] f [] with|some (a,b)=>(ZaY a).isSome&&(ZaY b).isSome|none=>false))=true:=by
 unfold Za6 at h
 dsimp only at h
 by_cases c1:Zbq f=true
 ·rw[if_pos c1]at h;omega
 rw[if_neg c1]at h
 cases hc:Zbg [47] f [] with
 | none =>
  rw[hc]at h
  dsimp only at h ⊢
  rw[if_neg (by decide)]at h
  by_cases c3:(Zbh f).isSome=true
  ·rw[if_pos c3]at h;omega
  rw[if_neg c3]at h
  by_cases c4:f=[37,122]
  ·rw[if_pos c4]at h;omega
  rw[if_neg c4]at h
  by_cases c5:((ZaY f).isSome||false)=true
  ·exact c5
  ·rw[if_neg c5]at h;omega
 | some x =>
  obtain⟨a,b⟩:=x
  rw[hc]at h
  dsimp only at h ⊢
  by_cases c2:(Zbq a&&Zbq b)=true
  ·rw[if_pos c2]at h;omega
  rw[if_neg c2]at h
  by_cases c3:(Zbh f).isSome=true
  ·rw[if_pos c3]at h;omega
  rw[if_neg c3]at h
  by_cases c4:f=[37,122]
  ·rw[if_pos c4]at h;omega
  rw[if_neg c4]at h
  by_cases c5:((ZaY f).isSome||(ZaY a).isSome&&(ZaY b).isSome)=true
  ·exact c5
  ·rw[if_neg c5]at h;omega
theorem Zqv {f a b:List UInt8}(h:ZdU f=some (a,b)):a.length<=7/\b.length<=7:=by
 unfold ZdU at h
 cases hc:Zbg [47] f [] with
 | none=>rw[hc]at h;cases h
 | some x =>
  obtain⟨a',b'⟩:=x
  rw[hc]at h
  dsimp only at h
  split at h
  ·rename_i hk
   simp only[Option.some.injEq,Prod.mk.injEq]at h
   obtain⟨rfl,rfl⟩:=h
   have hl:=Zl3 hc
   simp only[List.length_nil]at hl
   rcases hk with hk|hk
   ·have:=Zyi hk hc;omega
   ·have h5:=Zzo hk
    rw[hc]at h5
    dsimp only at h5
    rw[Bool.or_eq_true,Bool.and_eq_true]at h5
    rcases h5 with h5|⟨h5,h6⟩
    ·have:=ZeH h5;omega
    ·have:=ZeH h5
     have:=ZeH h6
     omega
  ·cases h
theorem Zml (f:List UInt8)(off save:Int)(letter:List UInt8):(ZeW f off save letter).1.length<=7:=by
 unfold ZeW
 cases hp:ZdU f with
 | some x =>
  obtain⟨a,b⟩:=x
  have:=Zqv hp
  dsimp only
  split
  ·exact this.1
  ·exact this.2
 | none =>
  dsimp only
  split
  ·split
   ·split
    ·rename_i hl;have:=ZfN hl;dsimp only;omega
    ·simp
   ·simp
  ·split
   ·split
    ·exact Zd5 _
    ·simp
   ·split
    ·rename_i hk
     dsimp only
     rcases hk with hk|hk
     ·have:=ZfN (Zzq hk);omega
     ·have h5:=Zzo hk
      cases hc:Zbg [47] f [] with
      | none =>
       rw[hc,Bool.or_false]at h5
       exact ZeH h5
      | some x =>
       obtain⟨a,b⟩:=x
       unfold ZdU at hp
       rw[hc]at hp
       dsimp only at hp
       rw[if_pos (.inr hk)]at hp
       cases hp
    ·simp
theorem Zk7 (x:List UInt8):∀ l:List (List UInt8),ZcM (l++[x])=ZcM l+(x.length+1)
 | []=>by simp[ZcM]
 | y::l=>by rw[List.cons_append,ZcM,ZcM,Zk7 x l];omega
theorem ZoM:∀ l:List (List UInt8),(∀ x∈l,x.length<=7)->ZcM l<=8*l.length
 | [],_=>Nat.le_refl _
 | y::l,h=>by
  have h1:=h y List.mem_cons_self
  have h2:=ZoM l fun x hx=>h x (List.mem_cons_of_mem _ hx)
  rw[ZcM,List.length_cons]
  omega
structure FewI (lp:List ((Int × ByteArray) × Int))(la:List (ByteArray × Int))(sz:Int)(acc:List (Int × List UInt8) × List (List UInt8))(t:Nat):Prop where
 kp:lp.map (·.1)=acc.1.map pz
 ka:la.map (·.1)=acc.2.map bz
 cp:Zgs lp t
 ca:Zgs la t
 le:acc.2.length<=t
 ls:∀ x∈acc.2,x.length<=7
 sz:sz=ZcM acc.2
theorem FewI.nil:FewI [] [] 0 ([],[]) 0:=⟨rfl,rfl,Zgs.nil _,Zgs.nil _,Nat.le_refl _,(fun _ h=>by cases h),rfl⟩
theorem FewI.lim {lp:List ((Int × ByteArray) × Int)}{la:List (ByteArray × Int)}{sz:Int}{acc:List (Int × List UInt8) × List (List UInt8)}{t:Nat}(h:FewI lp la sz acc t):0<=sz/\sz<=8*(t:Int):=by
 have h1:=ZoM _ h.ls
 have h2:=h.le
 rw[h.sz]
 omega
theorem FewI.step {lp:List ((Int × ByteArray) × Int)}{la:List (ByteArray × Int)}{sz:Int}{acc:List (Int × List UInt8) × List (List UInt8)}{t:Nat}(h:FewI lp la sz acc t)(o:Int)(x:List UInt8)(hx:x.length<=7) :
  FewI (cinc (o,bz x) lp) (cinc (bz x) la) (if cget (bz x) la+1=1 then sz+(x.length+1) else sz) (addP (o,x) acc.1,addA x acc.2) (t+1):=by
 have hm:bz x∈la.map (·.1)↔x∈acc.2:=by rw[h.ka];exact Zr8 Zpi
 have hp:(o,bz x)∈lp.map (·.1)↔(o,x)∈acc.1:=by rw[h.kp];show pz (o,x)∈List.map pz acc.1↔_;exact Zr8 Zzg
 refine⟨?_,?_,h.cp.inc _,h.ca.inc _,?_,?_,?_⟩
 ·rw[Zl6,h.kp]
  unfold addP
  rw[h.kp]at hp
  by_cases hh:(o,x)∈acc.1
  ·rw[if_pos (hp.2 hh),if_pos hh]
  ·rw[if_neg (fun e=>hh (hp.1 e)),if_neg hh,List.map_append];rfl
 ·rw[Zl6,h.ka]
  unfold addA
  rw[h.ka]at hm
  by_cases hh:x∈acc.2
  ·rw[if_pos (hm.2 hh),if_pos hh]
  ·rw[if_neg (fun e=>hh (hm.1 e)),if_neg hh,List.map_append];rfl
 ·unfold addA
  have:=h.le
  split
  ·dsimp only;omega
  ·simp;omega
 ·unfold addA
  intro y hy
  dsimp only at hy
  split at hy
  ·exact h.ls y hy
  ·rcases List.mem_append.1 hy with hy|hy
   ·exact h.ls y hy
   ·rw[List.mem_singleton.1 hy];exact hx
 ·have hn:=h.ca.new (bz x)
  unfold addA
  dsimp only
  by_cases hh:x∈acc.2
  ·rw[if_pos hh,if_neg (fun e=>hn.1 e (hm.2 hh))];exact h.sz
  ·rw[if_neg hh,if_pos (hn.2 fun e=>hh (hm.1 e)),Zk7,h.sz];omega
theorem FewI.few {lp:List ((Int × ByteArray) × Int)}{la:List (ByteArray × Int)}{sz:Int}{acc:List (Int × List UInt8) × List (List UInt8)}{t:Nat}(h:FewI lp la sz acc t) :
  (decide ((lp.length:Int)<=120)&&decide (sz<=250))=(decide (acc.1.length<=120)&&decide (ZcM acc.2<=250)):=by
 have h1:=congrArg List.length h.kp
 simp only[List.length_map]at h1
 rw[h1,h.sz]
 congr 1
 ·rw[decide_eq_decide];omega
 ·rw[decide_eq_decide];omega
theorem ZlY {rs:List DRule}{e:DEra}{b:Bool}(h:ZcZ rs e b=0):∀ x∈ZaG rs e,Za0 e.off x.1=true:=by
 intro x hx
 unfold ZcZ at h
 split at h
 ·cases h
 ·split at h
  ·cases h
  ·split at h
   ·cases h
   ·split at h
    ·cases h
    ·split at h
     ·cases h
     ·rename_i hn
      cases hh:Za0 e.off x.1 with
      | true=>rfl
      | false=>exact absurd (.inr (List.any_eq_true.2 ⟨x,hx,by rw[hh];rfl⟩)) hn
theorem Zih {rs:List DRule}{l:List DEra}{i:Nat}:∀ (f k:Nat),ZbS rs l i f k=none->∀ j,k<=j->j<k+f->ZcZ rs (l.getD j dE0) (decide (j=0))=0
 | 0,k,_,j,h1,h2=>by omega
 | f+1,k,h,j,h1,h2=>by
  rw[ZbS]at h
  split at h
  ·cases h
  ·rename_i h0
   split at h
   ·cases h
   ·by_cases hj:j=k
    ·rw[hj];exact Decidable.of_not_not h0
    ·exact Zih f (k+1) h j (by omega) (by omega)
theorem Zjv {rs:List DRule}{l:List DEra}{i:Nat}(h:ZbS rs l i l.length 0=none):∀ e∈l,∀ x∈ZaG rs e,Za0 e.off x.1=true:=by
 intro e he
 obtain⟨j,hj,rfl⟩:=List.mem_iff_getElem.1 he
 have:=Zih l.length 0 h j (Nat.zero_le _) (by omega)
 rw[List.getD_eq_getElem?_getD,List.getElem?_eq_getElem hj]at this
 exact ZlY this
end Go.Proofs.YtpipekfmecikmaaGreatDoor
