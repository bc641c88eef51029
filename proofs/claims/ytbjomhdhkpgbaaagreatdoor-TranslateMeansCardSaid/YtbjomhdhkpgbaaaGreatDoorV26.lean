/- Parts of the proof. -/
import Derived.Test.YtbjomhdhkpgbaaaGreatDoorV25
import Derived.Test.YtbjomhdhkpgbaaaGreatDoorV09
import Derived.Test.YtbjomhdhkpgbaaaGreatDoorV07
import Derived.Test.YtbjomhdhkpgbaaaGreatDoorV04
import Derived.Test.YtbjomhdhkpgbaaaGreatDoorV05
import Derived.Laws.Strings2
set_option maxHeartbeats 4000000
set_option linter.unusedVariables false
set_option linter.unusedSimpArgs false
namespace Go.Proofs.YtbjomhdhkpgbaaaGreatDoor
open Go Go.RowKit Go.Wk
theorem ZvR (n:Int):(dig2 n).length=2:=rfl
theorem Zdm (x:Int):(ZaT x).length<=7:=by
 unfold ZaT
 split
 ·exact Nat.zero_le _
 ·simp only[List.length_cons,List.length_append,ZvR]
  have h:∀ (c:Prop) [Decidable c] (n:Int),(if c then ([]:List UInt8) else dig2 n).length<=2:=fun c _ n=>by
   split
   ·exact Nat.zero_le _
   ·exact Nat.le_refl _
  have h1:=h
  generalize ha:(if (if x<0 then -x else x) % 3600=0 then ([]:List UInt8) else dig2 ((if x<0 then -x else x) / 60 % 60))=a
  generalize hb:(if (if x<0 then -x else x) % 60=0 then ([]:List UInt8) else dig2 ((if x<0 then -x else x) % 60))=b
  have h2:a.length<=2:=by rw[<- ha];exact h _ _
  have h3:b.length<=2:=by rw[<- hb];exact h _ _
  omega
theorem ZpM:∀ f∈Zvz,(match Zbk f with|none=>decide (ZaP f=1)&&decide (f.length<=7)|some (a,b)=>decide (a.length<=7)&&decide (b.length<=7))=true:=by decide +kernel
theorem ZdE:(∀ f∈Zvy,Zbk f=none)/\Zbk [37,122]=none:=by decide +kernel
theorem Zy3 {f:ByteArray}(h:f∈fmtU)(off save:Int)(x:List UInt8):(ZbO f.data.toList off save x).1.length<=7:=by
 rcases Zjl h with h|h|h
 ·have hp:=ZpM _ h
  unfold ZbO
  cases hq:Zbk f.data.toList with
  | none =>
   rw[hq]at hp
   simp at hp
   dsimp only
   rw[hp.1,if_neg (by decide),if_neg (by decide),if_pos (.inl rfl)]
   rw[Array.length_toList]
   exact hp.2
  | some ab =>
   obtain⟨a,b⟩:=ab
   rw[hq]at hp
   simp at hp
   dsimp only
   split
   ·exact hp.1
   ·exact hp.2
 ·obtain⟨hk,_⟩:=Zc1.2.1 _ h
  unfold ZbO
  rw[ZdE.1 _ h,hk]
  dsimp only
  rw[if_pos rfl]
  cases Zcu f.data.toList with
  | none=>exact Nat.zero_le _
  | some ab =>
   obtain⟨a,b⟩:=ab
   dsimp only
   split
   ·rename_i hh
    unfold Zdi Zdx at hh
    simp only[Bool.and_eq_true,decide_eq_true_eq]at hh
    dsimp only
    omega
   ·exact Nat.zero_le _
 ·unfold ZbO
  rw[h,ZdE.2,Zc1.2.2]
  dsimp only
  rw[if_neg (by decide),if_pos rfl]
  split
  ·exact Zdm _
  ·exact Nat.zero_le _
theorem ZiQ (x:List UInt8):∀ l,Zds (l++[x])=Zds l+x.length+1
 | []=>by simp[Zds]
 | y::l=>by rw[List.cons_append,Zds,ZiQ x l,Zds];omega
theorem Zwi (x:Int × List UInt8)(l:List (Int × List UInt8)):(addP x l).length<=l.length+1:=by
 unfold addP
 split
 ·omega
 ·rw[List.length_append];exact Nat.le_refl _
theorem Zwj (x:List UInt8)(l:List (List UInt8)):Zds (addA x l)<=Zds l+x.length+1:=by
 unfold addA
 split
 ·omega
 ·rw[ZiQ];exact Nat.le_refl _
theorem ZqQ {e:DEra}(he:e.format∈fmtU):∀ (l:List (Int × ByteArray)) (acc:List (Int × List UInt8) × List (List UInt8)),(stGo e l acc).1.length<=acc.1.length+l.length/\Zds (stGo e l acc).2<=Zds acc.2+8*l.length
 | [],acc=>by simp[stGo]
 | x::l,acc=>by
  have h1:=Zwi (e.off+x.1,(ZbO e.format.data.toList e.off x.1 x.2.data.toList).1) acc.1
  have h2:=Zwj (ZbO e.format.data.toList e.off x.1 x.2.data.toList).1 acc.2
  have h3:=Zy3 he e.off x.1 x.2.data.toList
  have h4:=ZqQ he l (addP (e.off+x.1,(ZbO e.format.data.toList e.off x.1 x.2.data.toList).1) acc.1,addA (ZbO e.format.data.toList e.off x.1 x.2.data.toList).1 acc.2)
  rw[stGo]
  dsimp only at h4 ⊢
  rw[List.length_cons]
  omega
theorem Zry (rs:List Zab):∀ (l:List DEra) (acc:List (Int × List UInt8) × List (List UInt8)),(∀ e∈l,∃ b,Zb1 rs e b)->(erGo rs l acc).1.length<=acc.1.length+5*l.length/\Zds (erGo rs l acc).2<=Zds acc.2+40*l.length
 | [],acc,_=>by simp[erGo]
 | e::l,acc,h=>by
  obtain⟨b,hb⟩:=h e List.mem_cons_self
  have h1:=ZqQ hb.fmt (ZaE rs e) acc
  have h2:=Zry rs l (stGo e (ZaE rs e) acc) fun x hx=>h x (List.mem_cons_of_mem _ hx)
  have h3:=hb.states.1
  rw[erGo,List.length_cons]
  omega
theorem ZcB.few {rs:List Zab}{z:ZaO}{Y:Nat->Int}(h:ZcB rs z.eras Y):Zf9 rs z=true:=by
 have h1:=Zry rs z.eras ([],[]) fun e he=>by
  obtain⟨k,hk,rfl⟩:=List.mem_iff_getElem.1 he
  exact⟨_,h.era k _ (List.getElem?_eq_getElem hk)⟩
 have h2:=h.len
 unfold Zf9
 have e0:Zds []=0:=rfl
 rw[e0]at h1
 simp only[List.length_nil]at h1
 rw[decide_eq_true (by omega),decide_eq_true (by omega)]
 rfl
theorem Ze1 {rs:List Zab}:∀ (l:List ZaO) (i:Nat),(∀ z∈l,∃ Y,ZcB rs z.eras Y)->ZbI rs l i=none
 | [],_,_=>rfl
 | z::l,i,h=>by
  obtain⟨Y,hz⟩:=h z List.mem_cons_self
  have hn:z.eras≠[]:=fun hh=>by
   have:=hz.len
   rw[hh]at this
   simp at this
  rw[ZbI,if_neg hn,hz.go i z.eras.length 0 (by omega)]
  dsimp only
  rw[if_neg (by rw[hz.few];decide)]
  exact Ze1 l (i+1) fun x hx=>h x (List.mem_cons_of_mem _ hx)
def Zko (z:ZaO):ZaO:=⟨z.name,[]⟩
def Zf0 (s:Zac):Zac:=⟨[],s.zones.map Zko,s.links,[]⟩
theorem ZdG (x:ByteArray):∀ (l:List ZaO) (k:Nat),Zbd x (l.map Zko) k=Zbd x l k
 | [],_=>rfl
 | z::l,k=>by rw[List.map_cons,Zbd,Zbd,ZdG x l (k+1)];rfl
theorem Zf2 (s:Zac):∀ (l:List ZaO) (i:Nat),Zbg (Zf0 s) (l.map Zko) i=Zbg s l i
 | [],_=>rfl
 | z::l,i=>by
  rw[List.map_cons,Zbg,Zbg,Zf2 s l (i+1),show(Zf0 s).zones=s.zones.map Zko from rfl,ZdG]
  rfl
theorem Zf6 (s:Zac):∀ (l:List Zbl) (i:Nat),ZbA (Zf0 s) l i=ZbA s l i
 | [],_=>rfl
 | z::l,i=>by
  rw[ZbA,ZbA,Zf6 s l (i+1),show(Zf0 s).zones=s.zones.map Zko from rfl,ZdG,ZdG]
  rfl
theorem Zfr (s:Zac):∀ (f:Nat) (seen:List ByteArray) (x:ByteArray),ZaW (Zf0 s) f seen x=ZaW s f seen x
 | 0,_,_=>rfl
 | f+1,seen,x=>by
  rw[ZaW,ZaW,show(Zf0 s).zones=s.zones.map Zko from rfl,ZdG,show(Zf0 s).links=s.links from rfl]
  simp only[Zfr s f]
theorem Zf4 (s:Zac):∀ (l:List Zbl) (i:Nat),Zbz (Zf0 s) l i=Zbz s l i
 | [],_=>rfl
 | z::l,i=>by
  rw[Zbz,Zbz,Zf4 s l (i+1),Zfr]
  rfl
theorem Zgr (s:Zac):Zda s=Zda (Zf0 s):=by
 unfold Zda
 rw[show(Zf0 s).zones=s.zones.map Zko from rfl,show(Zf0 s).links=s.links from rfl,Zf2,Zf6,Zf4]
theorem ZAX (a b:List Zab)(x:ByteArray):ofB (a++b) x=ofB a x++ofB b x:=List.filter_append _ _
theorem ZAY {l:List Zab}{x:ByteArray}(h:∀ r∈l,r.name=x):ofB l x=l:=List.filter_eq_self.2 fun r hr=>decide_eq_true (h r hr)
theorem ZCk {l:List Zab}{x y:ByteArray}(h:∀ r∈l,r.name=y)(hxy:y≠x):ofB l x=[]:=List.filter_eq_nil_iff.2 fun r hr=>by
 rw[h r hr]
 simp[hxy]
theorem Zeu:∀ (l:List Zab)(acc:List ByteArray),∀ x∈ZaS l acc,x∈acc\/∃ r∈l,r.name=x
 | [],acc,x,h => .inl h
 | a::l,acc,x,h=>by
  rw[ZaS]at h
  split at h
  ·rcases Zeu l acc x h with h|⟨r,h1,h2⟩
   ·exact .inl h
   ·exact .inr ⟨r,List.mem_cons_of_mem _ h1,h2⟩
  ·rcases Zeu l (acc++[a.name]) x h with h|⟨r,h1,h2⟩
   ·rw[List.mem_append,List.mem_singleton]at h
    rcases h with h|rfl
    ·exact .inl h
    ·exact .inr ⟨a,List.mem_cons_self,rfl⟩
   ·exact .inr ⟨r,List.mem_cons_of_mem _ h1,h2⟩
theorem Zfa {rs:List Zab}:∀ l:List ByteArray,(∀ x∈l,Zco rs x=none)->Zd8 rs l=none
 | [],_=>rfl
 | x::l,h=>by
  rw[Zd8,h x List.mem_cons_self]
  exact Zfa l fun y hy=>h y (List.mem_cons_of_mem _ hy)
attribute [local irreducible] W RL Does Zar Zal retQ Calls Pu Stp RD Qy Ay Zak
def Zei (n:Int):List Value:=[.int .u8 n]
theorem ZbB (A:Option Addr)(c:Nat)(l:List Int)(i n:Int)(w:World)(hA:RdSl w A c Zei 1 l)(hr:∀ x∈l,inR .u8 x)(hi:0<=i)(hn:0<n) :
  Does Tryz.prog 44 [.slice A l.length c,.int .i64 i,.int .i64 n] w (fun v O=>v = .int .i64 (atB l i n)/\O=[]):=by
 have hs1:=hA.le
 have hs2:=hA.cap
 unfold maxLen at hs2
 refine Zaa Tryz.func44 rfl rfl rfl rfl ?_
 repeat (first|refine walk ?_)
 refine Zah rfl (fun h=>?_) (fun h=>?_)
 ·repeat (first|refine walk ?_)
  exact ret_1 _ [] (.tmp rfl) .nil ⟨by simp at h;simp[atB,h],rfl⟩
 have h0:l.length≠0:=by simpa using h
 have hp:(0:Int)<l.length:=by omega
 have hm0:=Int.emod_nonneg i (b:=(l.length:Int)) (by omega)
 have hm1:=Int.emod_lt_of_pos i hp
 have hk:(i % (l.length:Int)).toNat<l.length:=by omega
 obtain⟨hna,hca⟩:=hA.rd _ _ (List.getElem?_eq_getElem hk)
 have hv:=hr _ (List.getElem_mem hk)
 have e:atB l i n=l[(i % (l.length:Int)).toNat] % n:=by
  rw[atB,if_neg h0,List.getD_eq_getElem?_getD,List.getElem?_eq_getElem hk]
  rfl
 rw[e]
 generalize l[(i % (l.length:Int)).toNat]=r at *
 rw[Zjf]at hv
 repeat (first|(apply RL_pu;rfl;exact PuI)|refine walk1 ?_)
 exact rtA
theorem ZhI (A:Option Addr)(c:Nat)(l:List Int)(i:Int)(w:World)(hA:RdSl w A c Zei 1 l)(hr:∀ x∈l,inR .u8 x)(hi:0<=i)(hi2:i<=1000) :
  Does Tryz.prog 45 [.slice A l.length c,.int .i64 i] w (fun v O=>v = .agg #[.int .i64 (ZeV l i).sec,.int .i64 (ZeV l i).base]/\O=[]):=by
 have h1:=Zat l i 49 (by decide)
 have h2:=Zat l (i+1) 3 (by decide)
 refine Zaa Tryz.func45 rfl rfl rfl rfl ?_
 repeat (first|(apply RL_pu;rfl;(apply ZeX;rfl;rfl;omega))|(refine js ?_;(first|(refine Zae (fun w' hw=>ZbB A c l (i) 49 w' (hA.up hw) hr (by omega) (by omega)) ?_)|(refine Zae (fun w' hw=>ZbB A c l (i+1) 3 w' (hA.up hw) hr (by omega) (by omega)) ?_)|(refine bx ?_;intro bk)))|refine walk1 ?_)
 exact ret_1 _ [] (.cellB rfl (by repeat' constructor) rfl rfl) .nil ⟨rfl,rfl⟩
theorem DDay.len3 (d:DDay):d.enc.length=3:=rfl
theorem ZhS {G:Prop}(h:G:=by(first|(apply Pu_loadO1;rfl;exact hp 0 _ rfl)|(apply ZeX;rfl;rfl;omega))):G:=h
theorem Zll {G:Prop}(h:G:=by first|(apply Qy_y;rfl;exact ZhS)|exact QyA):G:=h
theorem Zlm {G:Prop}(h:G:=by repeat (first|exact QF.nil|(apply QF.mk;rfl;rfl;decide +kernel;exact Zll))):G:=h
theorem ZhR {G:Prop}(h:G:=by(apply ZfU (cs:=(Zij l i).enc);rfl;rfl;(intro w' _ hO;exact((Zyl (c:=3) (l:=dayB l i) (t:=48) DDay.len3 (Nat.le_refl 3) (by decide) (hO.of (A := .blk bk ((dayB l i).flatMap DDay.enc) _) (by repeat' constructor))).rd _ _ hget).2))):G:=h
theorem Zlk {G:Prop}(h:G:=by first|(apply Qy_y;rfl;exact ZhR)|exact QyA):G:=h
theorem Ztz {G:Prop}(h:G:=by repeat (first|exact QF.nil|(apply QF.mk;rfl;rfl;decide +kernel;exact Zlk))):G:=h
theorem Zk5 (A:Option Addr)(c:Nat)(l:List Int)(i:Int)(ad:Addr)(w:World)(hA:RdSl w A c Zei 1 l)(hr:∀ x∈l,inR .u8 x)(hi:0<=i)(hi2:i<=1000)(hp:Zam w ad [.slice A l.length c]) :
  Does Tryz.prog 82 [.int .i64 i,.pointer (some ad)] w (fun v O=>v = .agg #[.int .i64 (Zij l i).kind,.int .i64 (Zij l i).week,.int .i64 (Zij l i).day]/\O=[]):=by
 have h1:=Zat l i 7 (by decide)
 have h2:=Zat l (i+1) 4 (by decide)
 have h3:=Zat l (i+1) 28 (by decide)
 have h4:=Zat l (i+2) 3 (by decide)
 refine Zaa Tryz.func82 rfl rfl rfl rfl ?_
 repeat (first|(apply RL_pu;rfl;exact ZhS)|(apply RD_Q;rfl;rfl;decide +kernel;rfl;rfl;exact Zll)|refine walk1 ?_|(refine jg ?_;(try intro F);(first|(refine Zae (fun w' hw=>ZbB A c l (i) 7 w' (hA.up hw) hr (by omega) (by omega)) ?_)|(refine Zae (fun w' hw=>ZbB A c l (i+1) 4 w' (hA.up hw) hr (by omega) (by omega)) ?_)|(refine Zae (fun w' hw=>ZbB A c l (i+1) 28 w' (hA.up hw) hr (by omega) (by omega)) ?_)|(refine Zae (fun w' hw=>ZbB A c l (i+2) 3 w' (hA.up hw) hr (by omega) (by omega)) ?_)|(refine bx ?_;intro bk)|(refine stA ?_));first|refine⟨_,EndsA,Zlm,?_⟩|refine fin ?_)|(refine jn ?_;(try intro F);(first|(refine bx ?_;intro bk)|(refine stA ?_)|(apply Zag;first|exact ZhS|exact PuA));first|refine⟨_,EndsA,Zlm,?_⟩|refine fin ?_)|(apply RD_W;rfl;intro bk))
 have hget:(dayB l i)[(atB l (i+2) 3).toNat]?=some (Zij l i):=by
  have hk:(atB l (i+2) 3).toNat<(dayB l i).length:=by simp only[dayB,List.length_cons,List.length_nil];omega
  rw[Zij,List.getD_eq_getElem?_getD,List.getElem?_eq_getElem hk]
  rfl
 repeat (first|(apply RL_pu;rfl;exact ZhR)|(apply RD_Q;rfl;rfl;decide +kernel;rfl;rfl;exact Zlk)|refine walk1 ?_|(refine jn ?_;(try intro F);(first|(refine bx ?_;intro bk)|(refine stA ?_)|(apply Zag;first|exact ZhR|exact PuA));first|refine⟨_,EndsA,Ztz,?_⟩|refine fin ?_)|(apply RD_W;rfl;intro bk))
 exact ret_1 _ [] (.cellB rfl (by repeat' constructor) rfl rfl) .nil ⟨rfl,rfl⟩
attribute [local irreducible] atB Zij ZeV
theorem ZrO {w:World}{b:Nat}{cs:List Value}{t:TypeId}(h:(It.blk b cs t).sat w):Zam w ⟨b,0,none⟩ cs:=fun j v hj=>(Zbv h j v hj).2
set_option maxHeartbeats 8000000 in
theorem ZiZ (A:Option Addr)(c:Nat)(l:List Int)(i a b save:Int)(w:World)(hA:RdSl w A c Zei 1 l)(hr:∀ x∈l,inR .u8 x)(hi:0<=i)(hi2:i<=900) :
  Does Tryz.prog 46 [.slice A l.length c,.int .i64 i,.int .i64 a,.int .i64 b,.int .i64 save] w (fun v O=>∃ k,v = .slice (some ⟨k,0,none⟩) 2 2/\O=[.blk k ((ZgJ l i a b save).flatMap Zab.enc) 56]):=by
 have r1:=Zat l i 3 (by decide)
 have r2:=Zat l (i+1) 3 (by decide)
 have r3:=Zat l (i+8) 3 (by decide)
 have r4:=Zat l (i+14) 2 (by decide)
 have r5:=Zat l (i+2) 4 (by decide)
 refine Zaa Tryz.func46 rfl rfl rfl rfl ?_
 repeat (first|refine ZAy ?_|(refine jn ?_;(try intro F);(first|(refine bx ?_;intro bk)|(refine stA ?_)|(apply Zag;exact PuA));refine fin ?_)|(apply RD_W;rfl;intro bk))
 generalize bk=b5
 refine Zcw (fun fr' O'=>∃ b1,Sub [(0,.slice A l.length c),(1,.int .i64 i),(2,.int .i64 a),(3,.int .i64 b),(4,.int .i64 save),(5,.pointer (some ⟨b5,0,none⟩)),(11,.func (.func 82) #[] #[.pointer (some ⟨b5,0,none⟩)]),(12,.pointer (some ⟨b1,0,none⟩))] fr'/\SubO [.blk b1 (Zpg l i a b save).enc 56,.blk b5 [.slice A l.length c] 83] O') ?_ ?_
 ·repeat (first|refine walk ?_|(refine jg ?_;(try intro F);(first|(refine Zae (fun w' hw=>ZbB A c l (i) 3 w' (hA.up hw) hr (by omega) (by omega)) ?_)|(refine Zae (fun w' hw=>ZbB A c l (i+8) 3 w' (hA.up hw) hr (by omega) (by omega)) ?_)|(refine Zae (fun w' hw=>ZhI A c l (i+6) w' (hA.up hw) hr (by omega) (by omega)) ?_)|(apply Zap (f:=82) (us:=[]) (cs:=[.pointer (some ⟨b5,0,none⟩)]) (vs:=[.int .i64 (i+3)]) (h:=fun w' hw hO=>Zk5 A c l (i+3) ⟨b5,0,none⟩ w' (hA.up hw) hr (by omega) (by omega) (ZrO (hO.of (A := .blk b5 _ _) (by repeat' constructor))));rfl;rfl;rintro v O' ⟨rfl,rfl⟩)|(refine bx ?_;intro bk)|(refine stA ?_));refine fin ?_)|(refine jn ?_;(try intro F);(first|(refine bx ?_;intro bk)|(refine stA ?_)|(apply Zag;exact PuA));refine fin ?_)|(apply RD_W;rfl;intro bk))
  exact⟨rfl,_,SFA,SOA⟩
 rintro fr' O' ⟨b1,hf,hO⟩
 apply thenQ_n
 refine ZcH hf hO ?_
 repeat (first|refine ZAy ?_|(refine jn ?_;(try intro F);(first|(refine bx ?_;intro bk)|(refine stA ?_)|(apply Zag;exact PuA));refine fin ?_)|(apply RD_W;rfl;intro bk))
 refine Zcw (fun fr' O'=>∃ b2,Sub [(0,.slice A l.length c),(1,.int .i64 i),(2,.int .i64 a),(3,.int .i64 b),(4,.int .i64 save),(5,.pointer (some ⟨b5,0,none⟩)),(11,.func (.func 82) #[] #[.pointer (some ⟨b5,0,none⟩)]),(12,.pointer (some ⟨b1,0,none⟩)),(13,.pointer (some ⟨b2,0,none⟩))] fr'/\SubO [.blk b2 (ZsB l i a b 0).enc 56,.blk b1 (Zpg l i a b save).enc 56,.blk b5 [.slice A l.length c] 83] O') ?_ ?_
 ·repeat (first|refine walk ?_|(refine jg ?_;(try intro F);(first|(refine Zae (fun w' hw=>ZbB A c l (i+1) 3 w' (hA.up hw) hr (by omega) (by omega)) ?_)|(refine Zae (fun w' hw=>ZbB A c l (i+14) 2 w' (hA.up hw) hr (by omega) (by omega)) ?_)|(refine Zae (fun w' hw=>ZhI A c l (i+12) w' (hA.up hw) hr (by omega) (by omega)) ?_)|(apply Zap (f:=82) (us:=[]) (cs:=[.pointer (some ⟨b5,0,none⟩)]) (vs:=[.int .i64 (i+9)]) (h:=fun w' hw hO=>Zk5 A c l (i+9) ⟨b5,0,none⟩ w' (hA.up hw) hr (by omega) (by omega) (ZrO (hO.of (A := .blk b5 _ _) (by repeat' constructor))));rfl;rfl;rintro v O' ⟨rfl,rfl⟩)|(refine bx ?_;intro bk)|(refine stA ?_));refine fin ?_)|(refine jn ?_;(try intro F);(first|(refine bx ?_;intro bk)|(refine stA ?_)|(apply Zag;exact PuA));refine fin ?_)|(apply RD_W;rfl;intro bk))
  exact⟨rfl,_,SFA,SOA⟩
 rintro fr' O' ⟨b2,hf,hO⟩
 apply thenQ_n
 refine ZcH hf hO ?_
 repeat (first|refine walk ?_|(refine jg ?_;(try intro F);(first|(refine Zae (fun w' hw=>ZbB A c l (i+2) 4 w' (hA.up hw) hr (by omega) (by omega)) ?_)|(refine bx ?_;intro bk)|(refine stA ?_));refine fin ?_)|(refine jn ?_;(try intro F);(first|(refine bx ?_;intro bk)|(refine stA ?_)|(apply Zag;exact PuA));refine fin ?_)|(apply RD_W;rfl;intro bk))
 generalize hra:Zpg l i a b save=ra
 generalize hrb:ZsB l i a b 0=rb
 refine ZcH (fr':=[(65,.bool (decide (atB l (i+2) 4=0))),(12,.pointer (some ⟨b1,0,none⟩)),(13,.pointer (some ⟨b2,0,none⟩))]) SFA (show SubO [.blk b2 [.string rb.name,.int .i64 rb.from_,.int .i64 rb.to,.int .i64 rb.month,.int .i64 rb.day.kind,.int .i64 rb.day.week,.int .i64 rb.day.day,.int .i64 rb.at_.sec,.int .i64 rb.at_.base,.int .i64 rb.save,.string rb.letter] 56,.blk b1 [.string ra.name,.int .i64 ra.from_,.int .i64 ra.to,.int .i64 ra.month,.int .i64 ra.day.kind,.int .i64 ra.day.week,.int .i64 ra.day.day,.int .i64 ra.at_.sec,.int .i64 ra.at_.base,.int .i64 ra.save,.string ra.letter] 56] _ from SOA) ?_
 refine Zah rfl (fun h=>?_) (fun h=>?_)
 ·have e:ZgJ l i a b save=[⟨ra.name,ra.from_,ra.to,ra.month,ra.day,ra.at_,rb.save,ra.letter⟩,⟨rb.name,rb.from_,rb.to,rb.month,rb.day,rb.at_,ra.save,rb.letter⟩]:=by
   rw[ZgJ,if_pos (by simpa using h),<- hra,<- hrb]
   rfl
  rw[e]
  repeat (first|refine walk ?_|(refine jn ?_;(try intro F);(first|(refine bx ?_;intro bk)|(refine stA ?_)|(apply Zag;exact PuA));refine fin ?_)|(apply RD_W;rfl;intro bk))
  exact ret_1 _ [.blk bk (List.flatMap Zab.enc [⟨ra.name,ra.from_,ra.to,ra.month,ra.day,ra.at_,rb.save,ra.letter⟩,⟨rb.name,rb.from_,rb.to,rb.month,rb.day,rb.at_,ra.save,rb.letter⟩]) 56] (.tmp rfl) SOA ⟨_,rfl,rfl⟩
 have e:ZgJ l i a b save=[ra,rb]:=by rw[ZgJ,if_neg (by simpa using h),<- hra,<- hrb]
 rw[e]
 repeat (first|refine walk ?_|(refine jn ?_;(try intro F);(first|(refine bx ?_;intro bk)|(refine stA ?_)|(apply Zag;exact PuA));refine fin ?_)|(apply RD_W;rfl;intro bk))
 exact ret_1 _ [.blk bk (List.flatMap Zab.enc [ra,rb]) 56] (.tmp rfl) SOA ⟨_,rfl,rfl⟩
attribute [local irreducible] ZgJ
def Zrl (n:Int):List Value:=[.int .i64 n]
theorem Zrl.len (n:Int):(Zrl n).length=1:=rfl
theorem Zra (x:ByteArray):∀ (l:List Zab) (k:Nat) (r:Zab),l[k]?=some r->lay (l.flatMap Zab.enc) (k*11) [.string x]=(l.take k++Zc7 x r::l.drop (k+1)).flatMap Zab.enc
 | [],k,r,h=>by simp at h
 | a::l,0,r,h=>by
  simp only[List.getElem?_cons_zero,Option.some.injEq]at h
  subst h
  simp[lay,Zc7,Zab.enc]
 | a::l,k+1,r,h=>by
  have ih:=Zra x l k r (by simpa using h)
  simp only[lay]at ih ⊢
  simp only[List.flatMap_cons,List.take_succ_cons,List.drop_succ_cons,List.cons_append]
  rw[<- ih]
  rw[show(k+1)*11=a.enc.length+k*11 by rw[Zab.len];omega,List.set_append_right _ _ (by omega),Nat.add_sub_cancel_left]
theorem ZlA {x:ByteArray}{l:List Zab}{k:Nat}(r:Zab)(hr:l[k]?=some r):((l.take k).map (Zc7 x)++l.drop k)[k]?=some r:=by
 have hk:=(List.getElem?_eq_some_iff.1 hr).1
 have e:((l.take k).map (Zc7 x)).length=k:=by rw[List.length_map,List.length_take];omega
 rw[List.getElem?_append_right (by omega),e,Nat.sub_self,List.getElem?_drop]
 exact hr
theorem ZsK (x:ByteArray)(l:List Zab)(k:Nat)(r:Zab)(hr:l[k]?=some r) :
  lay (((l.take k).map (Zc7 x)++l.drop k).flatMap Zab.enc) (k*11+0) [.string x]=((l.take (k+1)).map (Zc7 x)++l.drop (k+1)).flatMap Zab.enc:=by
 have hk:=(List.getElem?_eq_some_iff.1 hr).1
 have e:((l.take k).map (Zc7 x)).length=k:=by rw[List.length_map,List.length_take];omega
 rw[Nat.add_zero,Zra x _ k r (ZlA r hr),List.take_append_of_le_length (by omega),List.take_of_length_le (by omega)]
 congr 1
 rw[List.drop_append,List.drop_eq_nil_of_le (by omega),e,List.nil_append,List.drop_drop,List.take_add_one,List.map_append,List.append_assoc,hr,show k+(k+1 - k)=k+1 by omega]
 rfl
set_option maxHeartbeats 8000000 in
theorem Zpz (A:Option Addr)(c:Nat)(l:List Int)(x:ByteArray)(w:World)(hA:RdSl w A c Zei 1 l)(hr:∀ x∈l,inR .u8 x) :
  Does Tryz.prog 24 [.slice A l.length c,.string x] w (fun v O=>∃ A' c',v = .slice A' (Zb3 l x).length c'/\O=[.row (.slice A' (Zb3 l x).length c') 56 11 (Zb3 l x).length ((Zb3 l x).flatMap Zab.enc)]):=by
 have r0:=Zat l 0 5 (by decide)
 have r1:=Zat l 1 80 (by decide)
 have r3:=Zat l 3 28 (by decide)
 have r6:=Zat l 6 12 (by decide)
 have r8:=Zat l 8 5 (by decide)
 have r9:=Zat l 9 6 (by decide)
 obtain⟨q1,q2,q3⟩:=Zi8 l
 obtain⟨q4,q5,q6⟩:=Zny l (m1 l).1 (m1 l).2 q1 q2 q3
 have hget:Zhp[(atB l 0 5).toNat]?=some (Zbx l):=by
  have hk:(atB l 0 5).toNat<Zhp.length:=by simp only[Zhp,List.length_cons,List.length_nil];omega
  rw[Zbx,List.getD_eq_getElem?_getD,List.getElem?_eq_getElem hk]
  rfl
 refine Zaa Tryz.func24 rfl rfl rfl rfl ?_
 repeat (first|(apply RL_pu;rfl;(apply ZeO (v := .int .i64 (Zbx l));rfl;(intro w' _ hO;exact((Zyl (c:=5) (l:=Zhp) (t:=2) Zrl.len (Nat.le_refl 5) (by decide) (hO.of (A := .blk bk (Zhp.flatMap Zrl) _) (by repeat' constructor))).rd _ _ hget).2 0 _ rfl)))|(refine js ?_;(first|(refine Zae (fun w' hw=>ZbB A c l 0 5 w' (hA.up hw) hr (by omega) (by omega)) ?_)|(refine Zae (fun w' hw=>ZbB A c l 1 80 w' (hA.up hw) hr (by omega) (by omega)) ?_)|(refine Zae (fun w' hw=>ZbB A c l 2 3 w' (hA.up hw) hr (by omega) (by omega)) ?_)|(refine bx ?_;intro bk)))|refine walk1 ?_)
 refine Zdj 56 11 ?_
 refine Zcw (fun fr' O'=>∃ A' c' n xs,(n=(m1 l).1.length/\xs=(m1 l).1.flatMap Zab.enc)/\Sub [(0,.slice A l.length c),(1,.string x),(5,.int .i64 (Zbx l)),(6,.int .i64 (m1 l).2),(7,.slice A' n c')] fr'/\SubO [.row (.slice A' n c') 56 11 n xs] O') ?_ ?_
 ·refine Zah rfl (fun h=>?_) (fun h=>?_)
  ·have e:m1 l=([ZAV l (1900+atB l 1 80)],1900+atB l 1 80+1):=by rw[m1,if_pos (by simpa using h)]
   repeat (first|(refine js ?_;(first|(refine Zae (fun w' hw=>ZbB A c l 3 28 w' (hA.up hw) hr (by omega) (by omega)) ?_)|(refine Zae (fun w' hw=>ZhI A c l 4 w' (hA.up hw) hr (by omega) (by omega)) ?_)|(apply Zay;rfl;rfl;(intro A' c';(focus repeat' constructor));(intro w' _ hO;exact Zbv (hO.of (by repeat' constructor)));rfl;rfl;(simp only[maxLen];omega);omega;intro A' c' hc1 hc2 hc3)|(refine bx ?_;intro bk)))|refine walk ?_)
   rw[e]
   exact⟨rfl,A',c',0+1,[]++(ZAV l (1900+atB l 1 80)).enc,⟨rfl,rfl⟩,SFA,SOA⟩
  have e:m1 l=([],1900+atB l 1 80):=by rw[m1,if_neg (by simpa using h)]
  repeat (first|(refine js ?_;(refine bx ?_;intro bk))|refine walk ?_)
  rw[e]
  exact⟨rfl,none,0,0,[],⟨rfl,rfl⟩,SFA,SOA⟩
 rintro fr' O' ⟨A1,c1,n1,x1,⟨hn1,hx1⟩,hf,hO⟩
 apply thenQ_n
 refine ZcH hf hO ?_
 clear hf hO fr' O'
 repeat (first|(refine js ?_;(first|(refine Zae (fun w' hw=>ZbB A c l 5 2 w' (hA.up hw) hr (by omega) (by omega)) ?_)|(refine bx ?_;intro bk)))|refine walk ?_)
 rw[Zb3]
 generalize m1 l=g1 at *
 obtain⟨o1,f1⟩:=g1
 dsimp only at *
 refine Zcw (fun fr' O'=>∃ A' c' n xs,(n=(m2 l o1 f1).1.length/\xs=(m2 l o1 f1).1.flatMap Zab.enc)/\Sub [(0,.slice A l.length c),(1,.string x),(5,.int .i64 (Zbx l)),(6,.int .i64 (m2 l o1 f1).2),(7,.slice A' n c')] fr'/\SubO [.row (.slice A' n c') 56 11 n xs] O') ?_ ?_
 ·refine Zah rfl (fun h=>?_) (fun h=>?_)
  ·have e:m2 l o1 f1=(o1++ZgJ l 7 f1 (f1+atB l 6 12) (Zbx l),f1+atB l 6 12+1+atB l 8 5):=by rw[m2,if_pos (by simpa using h)]
   repeat (first|(refine js ?_;(first|(refine Zae (fun w' hw=>ZbB A c l 6 12 w' (hA.up hw) hr (by omega) (by omega)) ?_)|(refine Zae (fun w' hw=>ZbB A c l 8 5 w' (hA.up hw) hr (by omega) (by omega)) ?_)|(apply Zad (h:=fun w' hw _=>ZiZ A c l 7 f1 (f1+atB l 6 12) (Zbx l) w' (hA.up hw) hr (by omega) (by omega));rfl;rintro v O' ⟨k1,rfl,rfl⟩)|(apply Zay;rfl;rfl;(intro A' c';(focus repeat' constructor));(intro w' _ hO;exact Zbv (hO.of (by repeat' constructor)));(rw[ZaJ Zab.len,Zdw]);exact ZcR oneR _;(simp only[maxLen];omega);omega;intro A' c' hc1 hc2 hc3)|(refine bx ?_;intro bk)))|refine walk ?_)
   rw[e]
   exact⟨rfl,A',c',n1+2,x1++_,⟨by rw[List.length_append,Zdw,hn1],by rw[List.flatMap_append,hx1]⟩,SFA,SOA⟩
  have e:m2 l o1 f1=(o1,f1):=by rw[m2,if_neg (by simpa using h)]
  repeat (first|(refine js ?_;(refine bx ?_;intro bk))|refine walk ?_)
  rw[e]
  exact⟨rfl,A1,c1,n1,x1,⟨hn1,hx1⟩,SFA,SOA⟩
 rintro fr' O' ⟨A2,c2,n2,x2,⟨hn2,hx2⟩,hf,hO⟩
 apply thenQ_n
 refine ZcH hf hO ?_
 clear hf hO fr' O'
 generalize m2 l o1 f1=g2 at *
 obtain⟨o2,f2⟩:=g2
 dsimp only at *
 repeat (first|(refine js ?_;(first|(refine Zae (fun w' hw=>ZbB A c l 9 6 w' (hA.up hw) hr (by omega) (by omega)) ?_)|(refine Zae (fun w' hw=>ZbB A c l 10 3 w' (hA.up hw) hr (by omega) (by omega)) ?_)|(refine bx ?_;intro bk)))|refine walk ?_)
 refine Zcw (fun fr' O'=>Sub [(0,.slice A l.length c),(1,.string x),(5,.int .i64 (Zbx l)),(6,.int .i64 f2),(7,.slice A2 n2 c2),(9,.int .i64 (to17 l f2))] fr'/\SubO [.row (.slice A2 n2 c2) 56 11 n2 x2] O') ?_ ?_
 ·refine Zah rfl (fun h=>?_) (fun h=>?_)
  ·have e:to17 l f2=1048576:=by rw[to17,if_pos (by simpa using h)]
   repeat (first|(refine js ?_;(refine bx ?_;intro bk))|refine walk ?_)
   rw[e]
   exact⟨rfl,SFA,SOA⟩
  have e:to17 l f2=f2+atB l 9 6:=by rw[to17,if_neg (by simpa using h)]
  repeat (first|(refine js ?_;(refine bx ?_;intro bk))|refine walk ?_)
  rw[e]
  exact⟨rfl,SFA,SOA⟩
 rintro fr' O' ⟨hf,hO⟩
 apply thenQ_n
 refine ZcH hf hO ?_
 clear hf hO fr' O'
 repeat (first|(refine js ?_;(first|(apply Zad (h:=fun w' hw _=>ZiZ A c l 11 f2 (to17 l f2) (Zbx l) w' (hA.up hw) hr (by omega) (by omega));rfl;rintro v O' ⟨k1,rfl,rfl⟩)|(apply Zay;rfl;rfl;(intro A' c';(focus repeat' constructor));(intro w' _ hO;exact Zbv (hO.of (by repeat' constructor)));(rw[ZaJ Zab.len,Zdw]);exact ZcR oneR _;(simp only[maxLen];omega);omega;intro A' c' hc1 hc2 hc3)|(refine bx ?_;intro bk)))|refine walk ?_)
 obtain⟨o3,ho3⟩:∃ o3,m3 l o2 f2=o3:=⟨_,rfl⟩
 have hx3:x2++(ZgJ l 11 f2 (to17 l f2) (Zbx l)).flatMap Zab.enc=o3.flatMap Zab.enc:=by rw[<- ho3,m3,List.flatMap_append,hx2]
 have hn3:n2+2=o3.length:=by rw[<- ho3,m3,List.length_append,Zdw,hn2]
 have hn5:o3.length<=5:=by omega
 rw[ho3,hx3,hn3]
 have hAn:A'≠none:=hc3 (by omega)
 refine Zaq [(1,.string x),(7,.slice A' o3.length c'),(70,.int .i64 o3.length)] [] (fun k:Nat=>[(71,.int .i64 k)]) (fun k=>[.row (.slice A' o3.length c') 56 11 o3.length (((o3.take k).map (Zc7 x)++o3.drop k).flatMap Zab.enc)]) (fun k=>k<=o3.length) (fun k=>o3.length - k) 0 SFA SOA (Nat.zero_le _) ?_
 intro k hk
 repeat (first|(refine js ?_;(refine bx ?_;intro bk))|refine walk ?_)
 refine Zah rfl (fun h=>?_) (fun h=>?_)
 ·have hk2:k<o3.length:=by simpa using h
  have hll:(((o3.take k).map (Zc7 x)++o3.drop k).flatMap Zab.enc).length=o3.length*11:=by
   rw[ZaJ Zab.len,List.length_append,List.length_map,List.length_take,List.length_drop,Nat.min_eq_left hk]
   congr 1;omega
  repeat (first|(apply RL_pu;rfl;(first|(apply Pu_indexAddr;rfl;rfl;omega;omega;exact hAn)|(apply Zms;rfl)))|(refine js ?_;(first|(apply Zck;rfl;rfl;(focus repeat' constructor);rfl;rfl;rfl;(rw[hll];omega);decide;exact ZsK x o3 k _ (List.getElem?_eq_getElem hk2))|(refine bx ?_;intro bk)))|refine walk1 ?_)
  exact⟨k+1,OA,OA,SFA,SOA⟩
 have hk2:k=o3.length:=by simp only[decide_eq_false_iff_not]at h;omega
 subst hk2
 repeat (first|(refine js ?_;(refine bx ?_;intro bk))|refine walk ?_)
 have e:(o3.take o3.length).map (Zc7 x)++o3.drop o3.length=o3.map (Zc7 x):=by rw[List.take_length,List.drop_length,List.append_nil]
 rw[e]
 refine ret_1 _ [.row (.slice A' (o3.map (Zc7 x)).length c') 56 11 (o3.map (Zc7 x)).length ((o3.map (Zc7 x)).flatMap Zab.enc)] (.tmp (v := .slice A' (o3.map (Zc7 x)).length c') (by rw[List.length_map];rfl)) (by rw[List.length_map];exact SOA) ⟨A',c',rfl,rfl⟩
end Go.Proofs.YtbjomhdhkpgbaaaGreatDoor
namespace Go.Proofs.YtbjomhdhkpgbaaaGreatDoor
open Go Go.RowKit Go.Wk Go.ChangeShapes Go.WideShapes Go.ChangeAt
structure _root_.Go.Wk.E23 where
 mk ::
 kind:Int
 set:Int
 format:Int
 years:Int
 day:Int
 base:Int
 off:Int
 at_:Int
 deriving DecidableEq
def _root_.Go.Wk.E23.enc (d:E23):List Value:=[.int .u8 d.kind,.int .u8 d.set,.int .u8 d.format,.int .u8 d.years,.int .u8 d.day,.int .u8 d.base,.int .i8 d.off,.int .i8 d.at_]
section
variable {H:Type}{enc:TypeId × Value->H}{w:World}{sp:Nat->Bool}{held:Bool}
def _root_.Go.Wk.E23.ok (d:E23):Prop:=inR .u8 d.kind/\inR .u8 d.set/\inR .u8 d.format/\inR .u8 d.years/\inR .u8 d.day/\inR .u8 d.base/\inR .i8 d.off/\inR .i8 d.at_
theorem ZCd {n:Nat}{cs:List Value}{y:DataW H × List MemPlace}(h:DataW.trod enc Tryz.prog w 0 sp held n 89 cs=some y):∃ d:E23,cs=d.enc/\d.ok:=by
 obtain⟨hl,hf⟩:=Zrv Tryz.underlying89 h
 rw[show Tryz.prog.cellsOf 89=8 from by kernel_rfl]at hl
 have c5:Tryz.prog.cellsOf 5=1:=by kernel_rfl
 have c87:Tryz.prog.cellsOf 87=1:=by kernel_rfl
 obtain⟨a0,cs0,rfl,hl0⟩:=ZbN hl
 obtain⟨a1,cs1,rfl,hl1⟩:=ZbN hl0
 obtain⟨a2,cs2,rfl,hl2⟩:=ZbN hl1
 obtain⟨a3,cs3,rfl,hl3⟩:=ZbN hl2
 obtain⟨a4,cs4,rfl,hl4⟩:=ZbN hl3
 obtain⟨a5,cs5,rfl,hl5⟩:=ZbN hl4
 obtain⟨a6,cs6,rfl,hl6⟩:=ZbN hl5
 obtain⟨a7,cs7,rfl,hl7⟩:=ZbN hl6
 obtain rfl:=List.eq_nil_of_length_eq_zero hl7
 obtain⟨n0,y0,h0⟩:=hf 0 5 0 1 rfl c5
 obtain⟨x0,e0,_,b0⟩:=DataW.trod_int Tryz.underlying5 h0
 injection e0 with e0 _
 subst e0
 obtain⟨n1,y1,h1⟩:=hf 1 5 1 1 rfl c5
 obtain⟨x1,e1,_,b1⟩:=DataW.trod_int Tryz.underlying5 h1
 injection e1 with e1 _
 subst e1
 obtain⟨n2,y2,h2⟩:=hf 2 5 2 1 rfl c5
 obtain⟨x2,e2,_,b2⟩:=DataW.trod_int Tryz.underlying5 h2
 injection e2 with e2 _
 subst e2
 obtain⟨n3,y3,h3⟩:=hf 3 5 3 1 rfl c5
 obtain⟨x3,e3,_,b3⟩:=DataW.trod_int Tryz.underlying5 h3
 injection e3 with e3 _
 subst e3
 obtain⟨n4,y4,h4⟩:=hf 4 5 4 1 rfl c5
 obtain⟨x4,e4,_,b4⟩:=DataW.trod_int Tryz.underlying5 h4
 injection e4 with e4 _
 subst e4
 obtain⟨n5,y5,h5⟩:=hf 5 5 5 1 rfl c5
 obtain⟨x5,e5,_,b5⟩:=DataW.trod_int Tryz.underlying5 h5
 injection e5 with e5 _
 subst e5
 obtain⟨n6,y6,h6⟩:=hf 6 87 6 1 rfl c87
 obtain⟨x6,e6,_,b6⟩:=DataW.trod_int Tryz.underlying87 h6
 injection e6 with e6 _
 subst e6
 obtain⟨n7,y7,h7⟩:=hf 7 87 7 1 rfl c87
 obtain⟨x7,e7,_,b7⟩:=DataW.trod_int Tryz.underlying87 h7
 injection e7 with e7 _
 subst e7
 exact⟨⟨x0,x1,x2,x3,x4,x5,x6,x7⟩,rfl,Zf8 b0,Zf8 b1,Zf8 b2,Zf8 b3,Zf8 b4,Zf8 b5,Zf8 b6,Zf8 b7⟩
end
end Go.Proofs.YtbjomhdhkpgbaaaGreatDoor
namespace Go.Wk
open Go Go.RowKit
section
variable {P:Program}{n:Nat}{wr:World}{fr:Fr}{O:List It}{ty:TypeId}
theorem ZwL {t:TypeId}{x y z:Operand}{s:ByteArray}{k k':IntKind}{i j:Int}[hS:StringT P t](hx:ev fr x=some (.string s))(hy:ev fr y=some (.int k i))(hz:ev fr z=some (.int k' j))(h0:0<=i)(h1:i<=j)(h2:j<=s.size) :
  Pu P n wr fr O (.slice t x (some y) (some z) none) ty (.string (s.extract i.toNat j.toNat)):=fun a w hs _ _ _ _=>by
 have h:=run_slice_string (P:=P) w t s k k' i j hS.h h0 h1 h2
 simp[execOp,hs.sim.ev hx,hs.sim.ev hy,hs.sim.ev hz,Instr.sliceAt,run_underlying hS.h,h]
end
end Go.Wk
namespace Go.Proofs.YtbjomhdhkpgbaaaGreatDoor
open Go Go.RowKit Go.Wk
attribute [local irreducible] W RL Does Zar Zal retQ Calls Pu Stp RD Qy Ay Zak
def Zn1:ByteArray:=⟨#[48,49,50,51,52,53,54,55,56,57,97,98,99,100,101,102,103,104,105,106,107,108,109,110,111,112,113,114,115,116,117,118,119,120,121,122]⟩
def dig (i:Int):ByteArray:=Zn1.extract i.toNat (i+1).toNat
theorem Zo8 (i:Int)(h0:0<=i)(h1:i<10)(w:World):Does Tryz.prog 118 [.int .i64 i] w (fun v O=>v = .string (dig i)/\O=[]):=by
 refine Zaa Tryz.func118 rfl rfl rfl rfl ?_
 repeat (first|refine walk ?_)
 refine Zah rfl (fun h=>?_) (fun h=>absurd h (by simp;omega))
 repeat (first|(apply RL_pu;rfl;(apply ZwL;rfl;rfl;rfl;omega;omega;(show i+1<=((36:Nat):Int);omega)))|refine walk1 ?_)
 exact rtA
theorem Zkm (i:Int)(h0:0<=i)(h1:i<10)(w:World):Does Tryz.prog 83 [.int .i64 i,.int .i64 10] w (fun v O=>v = .string (dig i)/\O=[]):=by
 refine Zaa Tryz.func83 rfl rfl rfl rfl ?_
 repeat (first|(refine js ?_;(refine bx ?_;intro bk))|refine walk ?_)
 refine Zcx 14 rfl (fun _=>?_) (fun h=>absurd h (by simp;omega))
 repeat (first|(refine js ?_;(refine bx ?_;intro bk))|refine walk ?_)
 refine Zah rfl (fun h=>?_) (fun h=>absurd h (by simp;omega))
 repeat (first|(refine js ?_;(first|(refine Zae (fun w' _=>Zo8 i h0 h1 w') ?_)|(refine bx ?_;intro bk)))|refine walk ?_)
 exact rtA
theorem ZsY (i:Int)(h0:0<=i)(h1:i<10)(w:World):Does Tryz.prog 47 [.int .i64 i] w (fun v O=>v = .string (dig i)/\O=[]):=by
 refine Zaa Tryz.func47 rfl rfl rfl rfl ?_
 repeat (first|(refine js ?_;(refine Zae (fun w' _=>Zkm i h0 h1 w') ?_))|refine walk ?_)
 exact rtA
theorem ZdC (i:Int)(h0:0<=i)(h1:i<10)(w:World):Does Tryz.prog 25 [.int .i64 i] w (fun v O=>v = .string (dig i)/\O=[]):=by
 refine Zaa Tryz.func25 rfl rfl rfl rfl ?_
 repeat (first|(refine js ?_;(refine Zae (fun w' _=>ZsY i h0 h1 w') ?_))|refine walk ?_)
 exact rtA
def Zk1:List ByteArray:=[⟨#[76,77,84]⟩,⟨#[71,77,84,47,66,83,84]⟩,⟨#[69,37,115,83,84]⟩,⟨#[37,122]⟩,⟨#[67,69,84,47,67,69,83,84]⟩,⟨#[87,83,84]⟩]
def ZhA (n:Int):ByteArray:=Zk1.getD (n % 6).toNat ByteArray.empty
theorem ZlZ (n:Int)(h0:0<=n)(w:World):Does Tryz.prog 48 [.int .u8 n] w (fun v O=>v = .string (ZhA n)/\O=[]):=by
 have hm0:=Int.emod_nonneg n (b:=6) (by decide)
 have hm1:=Int.emod_lt_of_pos n (b:=6) (by decide)
 have hget:Zk1[(n % 6).toNat]?=some (ZhA n):=by
  have hk:(n % 6).toNat<Zk1.length:=by simp only[Zk1,List.length_cons,List.length_nil];omega
  rw[ZhA,List.getD_eq_getElem?_getD,List.getElem?_eq_getElem hk]
  rfl
 refine Zaa Tryz.func48 rfl rfl rfl rfl ?_
 repeat (first|(apply RL_pu;rfl;(apply ZeO (v := .string (ZhA n));rfl;(intro w' _ hO;exact((Zyl (c:=6) (l:=Zk1) (t:=9) Zav.len (Nat.le_refl 6) (by decide) (hO.of (A := .blk bk (Zk1.flatMap Zav) _) (by repeat' constructor))).rd _ _ hget).2 0 _ rfl)))|(refine js ?_;(refine bx ?_;intro bk))|refine walk1 ?_)
 exact rtA
theorem ZmN (y m d:Int)(w:World):Does Tryz.prog 49 [.int .i64 y,.int .i64 m,.int .i64 d] w (fun v O=>v = .agg #[.bool true,.int .i64 y,.int .i64 m,.int .i64 1,.int .i64 0,.int .i64 d,.int .i64 0,.int .i64 0]/\O=[]):=by
 refine Zaa Tryz.func49 rfl rfl rfl rfl ?_
 repeat (first|(refine js ?_;(refine bx ?_;intro bk))|refine walk ?_)
 exact ret_1 _ [] (.cellB rfl (by repeat' constructor) rfl rfl) .nil ⟨rfl,rfl⟩
attribute [local irreducible] dig ZhA
def sR:ByteArray:=⟨#[82]⟩
def ZdP (e:E23)(first:Bool):Int:=if first=true/\e.kind % 3=2 then 0 else e.kind % 3
def Zfc (e:E23)(first:Bool):Int:=if ZdP e first=1 then 1800*(1+e.set % 4) else 0
def ZiW (e:E23)(first:Bool)(sets:Int):ByteArray:=if ZdP e first=2 then sR++dig (e.set % sets) else ByteArray.empty
def ZvT (e:E23):DDay:=if e.day >= 200 then ⟨3,e.day % 7,8⟩ else ⟨1,0,1+e.day % 20⟩
def ZmS (e:E23)(year:Int)(fen:Bool):ZaZ:=if fen=true then ⟨true,year,1,ZvT e,⟨900*(24+e.at_.tmod 24),e.base % 3⟩⟩ else ⟨false,0,0,⟨0,0,0⟩,⟨0,0⟩⟩
def Zl1 (e:E23)(first:Bool)(sets year:Int)(fen:Bool):DEra:=⟨900*e.off.tmod 48,ZdP e first,Zfc e first,ZiW e first sets,ZhA e.format,ZmS e year fen⟩
theorem ZgB (a b:Int)(hb:0<b) : -b<a.tmod b/\a.tmod b<b:=⟨Int.lt_tmod_of_pos a hb,Int.tmod_lt_of_pos a hb⟩
theorem Ziw (i:Int)(h0:0<=i)(h1:i<10):(dig i).size=1:=by
 unfold dig
 rw[ByteArray.size_extract]
 have:Zn1.size=36:=rfl
 omega
theorem Zb0 {G G':Prop}(k:G')(h:Hold G'->G:=by intro k9;(first|refine walk ?_|(refine jn ?_;(try intro F);(first|(refine stA ?_)|(apply Zag;exact PuA));refine fin ?_));exact k9.out):G:=h ⟨k⟩
theorem ZcK {G:Prop}(h:G:=by(first|(apply ZeX;rfl;rfl;omega)|(apply Pu_rem (kk := .i8);rfl;rfl;decide))):G:=h
theorem ZfS {G:Prop}(h:G:=by first|(apply Qy_y;rfl;exact ZcK)|exact QyA):G:=h
theorem ZfT {G:Prop}(h:G:=by repeat (first|exact QF.nil|(apply QF.mk;rfl;rfl;decide +kernel;exact ZfS))):G:=h
theorem Zlq {G:Prop}(h:G:=by(first|(apply ZeX;rfl;rfl;omega)|(apply ZwO;rfl;rfl;omega))):G:=h
theorem Zlp {G:Prop}(h:G:=by(apply Zfz;rfl;rfl;(rw[Ziw _ (by omega) (by omega)];decide))):G:=h
set_option maxHeartbeats 8000000 in
theorem Zte (e:E23)(he:e.ok)(first:Bool)(sets year:Int)(fen:Bool)(hs0:0<sets)(hs1:sets<=10)(w:World) :
  Does Tryz.prog 26 [.agg e.enc.toArray,.bool first,.int .i64 sets,.int .i64 year,.bool fen] w (fun v O=>v = .agg (Zl1 e first sets year fen).enc.toArray/\O=[]):=by
 obtain⟨k1,k2,k3,k4,k5,k6,k7,k8⟩:=he
 rw[Zjf]at k1 k2 k3 k4 k5 k6
 rw[ZzA]at k7 k8
 have t1:=ZgB e.off 48 (by decide)
 have t2:=ZgB e.at_ 24 (by decide)
 have m1:=Int.emod_nonneg e.set (b:=sets) (by omega)
 have m2:=Int.emod_lt_of_pos e.set (b:=sets) hs0
 show Does _ _ [.agg #[.int .u8 e.kind,.int .u8 e.set,.int .u8 e.format,.int .u8 e.years,.int .u8 e.day,.int .u8 e.base,.int .i8 e.off,.int .i8 e.at_],.bool first,.int .i64 sets,.int .i64 year,.bool fen] w _
 refine Zaa Tryz.func26 rfl rfl rfl rfl ?_
 repeat (first|(apply RL_pu;rfl;exact ZcK)|(apply RD_Q;rfl;rfl;decide +kernel;rfl;rfl;exact ZfS)|refine walk1 ?_|(refine jg ?_;(try intro F);(first|(refine Zae (fun w' _=>ZlZ e.format k3.1 w') ?_)|(refine bx ?_;intro bk)|(refine stA ?_));first|refine⟨_,EndsA,ZfT,?_⟩|refine fin ?_)|(refine jn ?_;(try intro F);(first|(refine bx ?_;intro bk)|(refine stA ?_)|(apply Zag;first|exact ZcK|exact PuA));first|refine⟨_,EndsA,ZfT,?_⟩|refine fin ?_)|(apply RD_W;rfl;intro bk))
 rename_i b5 b10 _
 generalize bk=b11
 refine ZBF (fun fr' O'=>Sub [(30,.bool (decide (first=true/\e.kind % 3=2))),(2,.int .i64 sets),(3,.int .i64 year),(4,.bool fen),(5,.pointer (some ⟨b5,0,none⟩)),(10,.pointer (some ⟨b10,0,none⟩)),(11,.pointer (some ⟨b11,0,none⟩))] fr'/\SubO [.blk b11 [.int .i64 (900*e.off.tmod 48),.int .i64 (e.kind % 3),.int .i64 0,.string ByteArray.empty,.string (ZhA e.format),.bool false,.int .i64 0,.int .i64 0,.int .i64 0,.int .i64 0,.int .i64 0,.int .i64 0,.int .i64 0] 54,.blk b10 [.int .i64 0,.int .i64 0,.int .i64 0,.string ByteArray.empty,.string ByteArray.empty,.bool false,.int .i64 0,.int .i64 0,.int .i64 0,.int .i64 0,.int .i64 0,.int .i64 0,.int .i64 0] 54,.blk b5 [.int .u8 e.kind,.int .u8 e.set,.int .u8 e.format,.int .u8 e.years,.int .u8 e.day,.int .u8 e.base,.int .i8 e.off,.int .i8 e.at_] 89] O') ?_ ?_
 ·refine Zcx 26 rfl (fun h=>?_) (fun h=>?_)
  ·repeat (first|refine Zb0 ?_|(refine jn ?_;(try intro F);(refine bx ?_;intro bk);refine fin ?_)|(apply RD_W;rfl;intro bk))
   rw[show decide (first=true/\e.kind % 3=2)=decide (e.kind % 3=2) from decide_eq_decide.2 (by simp[h])]
   exact⟨SFA,SOA⟩
  ·repeat (first|refine Zb0 ?_|(refine jn ?_;(try intro F);(refine bx ?_;intro bk);refine fin ?_)|(apply RD_W;rfl;intro bk))
   rw[decide_eq_false (by simp[h])]
   exact⟨SFA,SOA⟩
 rintro fr' O' ⟨hf,hO⟩
 apply thenQ_n
 refine ZcH hf hO ?_
 clear hf hO fr' O'
 refine Zcw (fun fr' O'=>Sub [(2,.int .i64 sets),(3,.int .i64 year),(4,.bool fen),(5,.pointer (some ⟨b5,0,none⟩)),(10,.pointer (some ⟨b10,0,none⟩)),(11,.pointer (some ⟨b11,0,none⟩))] fr'/\SubO [.blk b11 [.int .i64 (900*e.off.tmod 48),.int .i64 (ZdP e first),.int .i64 0,.string ByteArray.empty,.string (ZhA e.format),.bool false,.int .i64 0,.int .i64 0,.int .i64 0,.int .i64 0,.int .i64 0,.int .i64 0,.int .i64 0] 54,.blk b10 [.int .i64 0,.int .i64 0,.int .i64 0,.string ByteArray.empty,.string ByteArray.empty,.bool false,.int .i64 0,.int .i64 0,.int .i64 0,.int .i64 0,.int .i64 0,.int .i64 0,.int .i64 0] 54,.blk b5 [.int .u8 e.kind,.int .u8 e.set,.int .u8 e.format,.int .u8 e.years,.int .u8 e.day,.int .u8 e.base,.int .i8 e.off,.int .i8 e.at_] 89] O') ?_ ?_
 ·refine Zah rfl (fun h=>?_) (fun h=>?_)
  ·rw[show ZdP e first=0 from if_pos (of_decide_eq_true h)]
   repeat (first|refine Zb0 ?_|(refine jn ?_;(try intro F);(refine bx ?_;intro bk);refine fin ?_)|(apply RD_W;rfl;intro bk))
   exact⟨rfl,SFA,SOA⟩
  ·rw[show ZdP e first=e.kind % 3 from if_neg (of_decide_eq_false h)]
   repeat (first|refine Zb0 ?_|(refine jn ?_;(try intro F);(refine bx ?_;intro bk);refine fin ?_)|(apply RD_W;rfl;intro bk))
   exact⟨rfl,SFA,SOA⟩
 rintro fr' O' ⟨hf,hO⟩
 apply thenQ_n
 refine ZcH hf hO ?_
 clear hf hO fr' O'
 repeat (first|refine Zkj ?_|(refine jn ?_;(try intro F);(first|(refine bx ?_;intro bk)|(refine stA ?_)|(apply Zag;exact PuA));refine fin ?_)|(apply RD_W;rfl;intro bk))
 refine Zcw (fun fr' O'=>Sub [(2,.int .i64 sets),(3,.int .i64 year),(4,.bool fen),(5,.pointer (some ⟨b5,0,none⟩)),(10,.pointer (some ⟨b10,0,none⟩)),(11,.pointer (some ⟨b11,0,none⟩))] fr'/\SubO [.blk b11 [.int .i64 (900*e.off.tmod 48),.int .i64 (ZdP e first),.int .i64 (Zfc e first),.string (ZiW e first sets),.string (ZhA e.format),.bool false,.int .i64 0,.int .i64 0,.int .i64 0,.int .i64 0,.int .i64 0,.int .i64 0,.int .i64 0] 54,.blk b10 [.int .i64 0,.int .i64 0,.int .i64 0,.string ByteArray.empty,.string ByteArray.empty,.bool false,.int .i64 0,.int .i64 0,.int .i64 0,.int .i64 0,.int .i64 0,.int .i64 0,.int .i64 0] 54,.blk b5 [.int .u8 e.kind,.int .u8 e.set,.int .u8 e.format,.int .u8 e.years,.int .u8 e.day,.int .u8 e.base,.int .i8 e.off,.int .i8 e.at_] 89] O') ?_ ?_
 ·repeat (first|refine Zb0 ?_|(refine jn ?_;(try intro F);(refine bx ?_;intro bk);refine fin ?_)|(apply RD_W;rfl;intro bk))
  refine Zah rfl (fun h=>?_) (fun h=>?_)
  ·have hk:=of_decide_eq_true h
   rw[show Zfc e first=1800*(1+e.set % 4) from if_pos hk,show ZiW e first sets=ByteArray.empty from if_neg (by rw[hk];decide)]
   repeat (first|(apply RL_pu;rfl;exact Zlq)|(apply RD_Q;rfl;rfl;decide +kernel;rfl;rfl;exact QyMadeE231)|refine walk1 ?_|(refine jn ?_;(try intro F);(first|(refine bx ?_;intro bk)|(refine stA ?_)|(apply Zag;first|exact Zlq|exact PuA));first|refine⟨_,EndsA,QFMadeE231,?_⟩|refine fin ?_)|(apply RD_W;rfl;intro bk))
   exact⟨rfl,SFA,SOA⟩
  ·have hk:=of_decide_eq_false h
   rw[show Zfc e first=0 from if_neg hk]
   repeat (first|refine Zb0 ?_|(refine jn ?_;(try intro F);(refine bx ?_;intro bk);refine fin ?_)|(apply RD_W;rfl;intro bk))
   refine Zah rfl (fun h2=>?_) (fun h2=>?_)
   ·rw[show ZiW e first sets=sR++dig (e.set % sets) from if_pos (of_decide_eq_true h2)]
    repeat (first|(apply RL_pu;rfl;exact Zlp)|(apply RD_Q;rfl;rfl;decide +kernel;rfl;rfl;exact QyMadeE232)|refine walk1 ?_|(refine jg ?_;(try intro F);(first|(refine Zae (fun w' _=>ZdC (e.set % sets) m1 (by omega) w') ?_)|(refine bx ?_;intro bk)|(refine stA ?_));first|refine⟨_,EndsA,QFMadeE232,?_⟩|refine fin ?_)|(refine jn ?_;(try intro F);(first|(refine bx ?_;intro bk)|(refine stA ?_)|(apply Zag;first|exact Zlp|exact PuA));first|refine⟨_,EndsA,QFMadeE232,?_⟩|refine fin ?_)|(apply RD_W;rfl;intro bk))
    exact⟨rfl,SFA,SOA⟩
   ·rw[show ZiW e first sets=ByteArray.empty from if_neg (of_decide_eq_false h2)]
    repeat (first|refine Zb0 ?_|(refine jn ?_;(try intro F);(refine bx ?_;intro bk);refine fin ?_)|(apply RD_W;rfl;intro bk))
    exact⟨rfl,SFA,SOA⟩
 rintro fr' O' ⟨hf,hO⟩
 apply thenQ_n
 refine ZcH hf hO ?_
 clear hf hO fr' O'
 have hE:∀ u:ZaZ,ZmS e year fen=u->(Zl1 e first sets year fen).enc=[.int .i64 (900*e.off.tmod 48),.int .i64 (ZdP e first),.int .i64 (Zfc e first),.string (ZiW e first sets),.string (ZhA e.format),.bool u.is,.int .i64 u.year,.int .i64 u.month,.int .i64 u.day.kind,.int .i64 u.day.week,.int .i64 u.day.day,.int .i64 u.at_.sec,.int .i64 u.at_.base]:=fun u hu=>by rw[<- hu];rfl
 generalize ZdP e first=K at *
 generalize Zfc e first=SV at *
 generalize ZiW e first sets=ST at *
 repeat (first|refine Zb0 ?_|(refine jn ?_;(try intro F);(refine bx ?_;intro bk);refine fin ?_)|(apply RD_W;rfl;intro bk))
 refine Zah rfl (fun h=>?_) (fun h=>?_)
 ·repeat (first|refine walk ?_|(refine jg ?_;(try intro F);(first|(refine Zae (fun w' _=>ZmN year 1 (1+e.day % 20) w') ?_)|(refine bx ?_;intro bk)|(refine stA ?_));refine fin ?_)|(refine jn ?_;(try intro F);(first|(refine bx ?_;intro bk)|(refine stA ?_)|(apply Zag;exact PuA));refine fin ?_)|(apply RD_W;rfl;intro bk))
  refine Zah rfl (fun h2=>?_) (fun h2=>?_)
  ·rw[hE ⟨true,year,1,⟨3,e.day % 7,8⟩,⟨900*(24+e.at_.tmod 24),e.base % 3⟩⟩ (by rw[ZmS,if_pos h,ZvT,if_pos (of_decide_eq_true h2)])]
   repeat (first|(apply RL_pu;rfl;exact ZcK)|(apply RD_Q;rfl;rfl;decide +kernel;rfl;rfl;exact ZfS)|refine walk1 ?_|(refine jn ?_;(try intro F);(first|(refine bx ?_;intro bk)|(refine stA ?_)|(apply Zag;first|exact ZcK|exact PuA));first|refine⟨_,EndsA,ZfT,?_⟩|refine fin ?_)|(apply RD_W;rfl;intro bk))
   exact ret_1 _ [] (.cellB rfl (by repeat' constructor) rfl rfl) .nil ⟨rfl,rfl⟩
  ·rw[hE ⟨true,year,1,⟨1,0,1+e.day % 20⟩,⟨900*(24+e.at_.tmod 24),e.base % 3⟩⟩ (by rw[ZmS,if_pos h,ZvT,if_neg (of_decide_eq_false h2)])]
   repeat (first|(apply RL_pu;rfl;exact ZcK)|(apply RD_Q;rfl;rfl;decide +kernel;rfl;rfl;exact ZfS)|refine walk1 ?_|(refine jn ?_;(try intro F);(first|(refine bx ?_;intro bk)|(refine stA ?_)|(apply Zag;first|exact ZcK|exact PuA));first|refine⟨_,EndsA,ZfT,?_⟩|refine fin ?_)|(apply RD_W;rfl;intro bk))
   exact ret_1 _ [] (.cellB rfl (by repeat' constructor) rfl rfl) .nil ⟨rfl,rfl⟩
 ·rw[hE ⟨false,0,0,⟨0,0,0⟩,⟨0,0⟩⟩ (by rw[ZmS,if_neg (by rw[h];decide)])]
  repeat (first|refine Zb0 ?_|(refine jn ?_;(try intro F);(refine bx ?_;intro bk);refine fin ?_)|(apply RD_W;rfl;intro bk))
  exact ret_1 _ [] (.cellB rfl (by repeat' constructor) rfl rfl) .nil ⟨rfl,rfl⟩
end Go.Proofs.YtbjomhdhkpgbaaaGreatDoor
