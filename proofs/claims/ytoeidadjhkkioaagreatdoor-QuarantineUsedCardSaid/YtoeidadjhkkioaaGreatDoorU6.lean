/- Texts joined. -/
import Derived.Test.YtoeidadjhkkioaaGreatDoorU5
set_option linter.unusedVariables false
set_option linter.unusedSimpArgs false
namespace Go.Ar
variable {c:cA}{ss:List cH}
structure dI (c:cA) (ss:List cH):Prop where
 ok:c.ok
 tk:∀s∈ss,s.tk.length=c.n
 ub:ss.Pairwise λa b=>a.st+c.aG<=b.st
def Tk (c:cA)(ss:List cH)(x:Int):Prop:=eH c ss x=some true
def vM (c:cA)(ss:List cH)(p:Nat):Prop:=∃s∈ss,s.st<=p/\p<s.st+c.aG
theorem dI.pos (h:dI c ss):0<c.size:=by have:=h.ok;unfold cA.ok at this;omega
theorem dI.pg (h:dI c ss):1<=c.aG:=by have:=h.ok;unfold cA.ok at this;omega
theorem dI.rF (h:dI c ss):ss.Pairwise λa b=>a.st<b.st:=h.ub.imp λ{a b} d=>by have:=h.pg;omega
theorem dI.uB (h:dI c ss){i j:Nat}{s t:cH}(hi:ss[i]?=some s)(hj:ss[j]?=some t)(hij:i<j):s.st+c.aG<=t.st:=by
 obtain⟨b,rfl⟩:=cY.1 hi;obtain⟨a,rfl⟩:=cY.1 hj;exact mC.1 h.ub i j b a hij
theorem dI.xH (h:dI c ss){i j:Nat}{s t:cH}{p:Nat}(hi:ss[i]?=some s)(hj:ss[j]?=some t)(h1:s.st<=p)(h2:p<s.st+c.aG)(h3:t.st<=p)(h4:p<t.st+c.aG):i=j:=by
 rcases qO i j with hl|hl|hl
 ·have:=h.uB hi hj hl;omega
 ·exact hl
 ·have:=h.uB hj hi hl;omega
theorem JS (hp:0<c.size){s:cH}{i:Nat}(hi:i<c.n):s.st*256<=at_ c s i/\at_ c s i+c.size<=(s.st+c.aG)*256:=by
 have b:=cA.wF c;have a:(i+1)*c.size<=c.n*c.size:=mD _ hi;unfold at_;rw[zp]at a;omega
theorem Gq (hp:0<c.size){s:cH}{i x:Nat}(hi:i<c.n)(h1:at_ c s i<=x)(h2:x<at_ c s i+c.size):s.st<=x/256/\x/256<s.st+c.aG:=by
 have:=JS hp (s:=s) hi;omega
theorem UM (h:dI c ss){k l:Nat}{s t:cH}{i j x:Nat}(hk:ss[k]?=some s)(hl:ss[l]?=some t)(hi:i<c.n)(hj:j<c.n)(h1:at_ c s i<=x)(h2:x<at_ c s i+c.size)(h3:at_ c t j<=x)(h4:x<at_ c t j+c.size):k=l/\s=t/\i=j:=by
 have a:=Gq h.pos hi h1 h2;have b:=Gq h.pos hj h3 h4;have e:=h.xH hk hl a.1 a.2 b.1 b.2;subst e;rw[hk]at hl;cases hl;refine⟨rfl,rfl,?_⟩;unfold at_ at *;have d:=h.pos;rcases qO i j with hl|hl|hl
 ·have:(i+1)*c.size<=j*c.size:=mD _ hl;rw[zp]at this;omega
 ·exact hl
 ·have:(j+1)*c.size<=i*c.size:=mD _ hl;rw[zp]at this;omega
theorem Ee (h:dI c ss){s:cH}(hs:s∈ss){x:Int}{i:Nat}(hi:idx c s x=some i):i<c.n/\((s.st*256:Nat):Int)<=x/\x<(((s.st+c.aG)*256:Nat):Int)/\((at_ c s i:Nat):Int)<=x/\x<((at_ c s i+c.size:Nat):Int):=by
 obtain⟨d,b,a⟩:=(Un h.pos).1 hi;rw[h.tk s hs]at a;have:=JS h.pos (s:=s) a;have e:at_ c s (i+1)=at_ c s i+c.size:=by unfold at_;rw[zp];omega
 rw[e]at b;omega
theorem Fk (h:dI c ss){k:Nat}{s:cH}{x:Int}{i:Nat}(hs:ss[k]?=some s)(hi:idx c s x=some i):kY c ss x=some k:=by
 obtain⟨u,g⟩:=cY.1 hs;refine nK.2 ⟨u,by rw[g,hi];rfl,λj r p=>?_⟩;have d:j<ss.length:=by omega
 obtain⟨w,m⟩:=pc.1 p;have a:=Ee h (zG hs) hi;have b:=Ee h (kD d) m;have:=h.uB (cW d) hs r;omega
theorem IN (h:dI c ss){x:Int}{b:Bool}:eH c ss x=some b↔∃(k:Nat) (s:cH) (i:Nat),ss[k]?=some s/\i<c.n/\x=((at_ c s i:Nat):Int)/\s.is i=b:=by
 constructor
 ·intro hx;obtain⟨k,s,i,_,a,g,j⟩:=Au hx;obtain⟨p,m⟩:=(Hh h.pos).1 g;rw[h.tk s (zG a)]at m;exact⟨k,s,i,a,m,p,j⟩
 ·rintro⟨k,s,i,a,hi,rfl,j⟩;have r:=h.tk s (zG a);have g:obj c s ((at_ c s i:Nat):Int)=some i:=(Hh h.pos).2 ⟨rfl,O⟩;have d:idx c s ((at_ c s i:Nat):Int)=some i:=(Un h.pos).2 ⟨wU _,by have:=h.pos;unfold at_;rw[zp];omega,O⟩;rw[Uh (Fk h a d) a,g,←j];rfl
theorem Uk (h:dI c ss){x:Int}:Tk c ss x↔∃(k:Nat) (s:cH) (i:Nat),ss[k]?=some s/\i<c.n/\x=((at_ c s i:Nat):Int)/\s.is i=true:=IN h
theorem Em (h:dI c ss){x:Int}{a:Nat}:rK c ss x=some a↔∃(k:Nat) (s:cH) (i:Nat),ss[k]?=some s/\i<c.n/\a=at_ c s i/\((at_ c s i:Nat):Int)<=x/\x<((at_ c s i+c.size:Nat):Int):=by
 constructor
 ·intro hf;cases ho:kY c ss x with
  | none=>rw[EH ho]at hf;cases hf
  | some k=>
   have g:=(nK.1 ho).1;have b:ss[k]?=some ss[k]:=cW g;rw[GJ ho b]at hf;obtain⟨i,hi,rfl⟩:=oH.1 hf;have:=Ee h (zG b) hi;exact⟨k,_,i,b,this.1,rfl,this.2.2.2.1,this.2.2.2.2⟩
 ·rintro⟨k,s,i,b,hi,rfl,h1,h2⟩;have j:=h.tk s (zG b);have e:at_ c s (i+1)=at_ c s i+c.size:=by unfold at_;rw[zp];omega
  have d:idx c s x=some i:=(Un h.pos).2 ⟨h1,by rw[e];exact h2,O⟩;rw[GJ (Fk h b d) b,d];rfl
theorem dI.put (h:dI c ss){k i:Nat}{s:cH}(hs:ss[k]?=some s)(v:Bool):dI c (ss.set k (s.put i v)):=by
 have r:=(cY.1 hs).1;refine⟨h.ok,λt p=>?_,?_⟩
 ·rcases Ag p with p|rfl
  ·exact h.tk t p
  ·rw[show(s.put i v).tk.length=s.tk.length by simp[cH.put]];exact h.tk s (zG hs)
 ·rw[mC];intro a b ha hb hab;have d:a<ss.length:=by simpa using ha
  have g:b<ss.length:=by simpa using hb
  have m:∀j (hj:j<(ss.set k (s.put i v)).length) (hj':j<ss.length),(ss.set k (s.put i v))[j].st=ss[j].st:=by
   intro j hj hj';rw[List.getElem_set];split
   ·rename_i e;subst e;have:ss[k]=s:=(cY.1 hs).2;rw[this];rfl
   ·rfl
  rw[m a ha d,m b hb g];exact mC.1 h.ub a b d g hab
theorem Ih {k i:Nat}{s:cH}(hs:ss[k]?=some s)(v:Bool):(ss.set k (s.put i v)).map (·.st)=ss.map (·.st):=by
 apply zt;intro j;simp only[zZ];by_cases hjk:j=k
 ·subst hjk;rw[zO (cY.1 hs).1,hs];rfl
 ·rw[zh (Ne.symm hjk)]
theorem DD {s:cH}{i j:Nat}{v:Bool}(hi:i<s.tk.length):(s.put i v).is j=if j=i then v else s.is j:=by
 unfold cH.is cH.put;simp only[zQ];by_cases hj:j=i
 ·subst hj;rw[zO hi,zC rfl];rfl
 ·rw[zh (Ne.symm hj),zB hj]
theorem EV (h:dI c ss){k i:Nat}{s:cH}(hs:ss[k]?=some s)(hi:i<c.n)(v:Bool){y:Int}:Tk c (ss.set k (s.put i v)) y↔(y=((at_ c s i:Nat):Int)/\v=true)\/(y≠((at_ c s i:Nat):Int)/\Tk c ss y):=by
 have b:=(cY.1 hs).1;have m:=h.tk s (zG hs);have g:=h.pos;rw[Uk (h.put hs v),Uk h];constructor
 ·rintro⟨l,t,j,ht,hj,rfl,hb⟩;by_cases hlk:l=k
  ·subst hlk;rw[zO b]at ht;cases ht;rw[DD O]at hb;by_cases a:j=i
   ·subst a;rw[zC rfl]at hb;exact .inl ⟨rfl,hb⟩
   ·rw[zB a]at hb;refine .inr ⟨λe=>a ?_,l,s,j,hs,hj,rfl,hb⟩;have d:at_ c s j=at_ c s i:=by have:=Int.ofNat.inj e;exact this
    exact(UM h hs hs hj hi (zD _) O O O).2.2
  ·rw[zh (Ne.symm hlk)]at ht;refine .inr ⟨λe=>hlk ?_,l,t,j,ht,hj,rfl,hb⟩;have d:at_ c t j=at_ c s i:=Int.ofNat.inj e;exact(UM h ht hs hj hi (zD _) O O O).1
 ·rintro(⟨rfl,rfl⟩|⟨hne,l,t,j,ht,hj,rfl,hb⟩)
  ·exact⟨k,s.put i true,i,zO b,hi,rfl,by rw[DD O,zC rfl]⟩
  ·by_cases hlk:l=k
   ·subst hlk;rw[hs]at ht;cases ht;have a:j≠i:=λe=>hne (by rw[e]);exact⟨l,s.put i v,j,zO b,hj,rfl,by rw[DD O,zB a];exact hb⟩
   ·exact⟨l,t,j,(zh (Ne.symm hlk)).trans ht,hj,rfl,hb⟩
theorem Iy {p:Nat}:vM c ss p↔∃x∈ss.map (·.st),x<=p/\p<x+c.aG:=by
 constructor
 ·rintro⟨s,a,h⟩;exact⟨_,zE.2 ⟨s,a,rfl⟩,h⟩
 ·rintro⟨x,hx,h⟩;obtain⟨s,a,rfl⟩:=zE.1 hx;exact⟨s,a,h⟩
theorem ο {ss':List cH}(e:ss'.map (·.st)=ss.map (·.st)){p:Nat}:vM c ss' p↔vM c ss p:=by rw[Iy,Iy,e]
theorem Tf (h:dI c ss){x:Nat}{ss':List cH}(ho:jc c ss=some (x,ss')):dI c ss'/\ss'.map (·.st)=ss.map (·.st)/\¬Tk c ss (x:Int)/\∀y,Tk c ss' y↔y=(x:Int)\/Tk c ss y:=by
 unfold jc at ho;split at ho
 ·rename_i k hk;obtain⟨_,s,g,p⟩:=Km hk;rw[g]at ho;simp only at ho;split at ho
  ·rename_i i hi;cases ho;obtain⟨r,w,u,m⟩:=Al p;rw[hi]at w;cases w;have j:i<c.n:=by rw[←h.tk s (zG g)];exact u
   have d:¬Tk c ss ((at_ c s i:Nat):Int):=λa=>by
    have z:=(IN h (x:=((at_ c s i:Nat):Int)) (b:=false)).2 ⟨k,s,i,g,j,rfl,m⟩;unfold Tk at a;rw[z]at a;cases a
   refine⟨h.put g true,Ih g true,d,λy=>?_⟩;rw[EV h g j];constructor
   ·rintro(⟨e,_⟩|⟨_,a⟩)
    ·exact .inl e
    ·exact .inr a
   ·rintro(e|a)
    ·exact .inl ⟨e,rfl⟩
    ·exact .inr ⟨λe=>d (e▸a),a⟩
  ·cases ho
 ·cases ho
theorem Gn:∀(m:Nat) {ss:List cH},dI c ss->dI c (KI c m ss).2/\(KI c m ss).2.map (·.st)=ss.map (·.st)/\(KI c m ss).1.length<=m/\(KI c m ss).1.Nodup/\(∀x∈(KI c m ss).1,¬Tk c ss (x:Int))/\∀y,Tk c (KI c m ss).2 y↔(∃x∈(KI c m ss).1,y=((x:Nat):Int))\/Tk c ss y
 | 0,ss,h=>⟨h,rfl,zD _,uz,by simp[KI],by simp[KI]⟩
 | m+1,ss,h=>by
  cases ho:jc c ss with
  | none=>
   have e:KI c (m+1) ss=([],ss):=by simp[KI,ho]
   rw[e];exact⟨h,rfl,by simp,uz,by simp,by simp⟩
  | some r=>
   obtain⟨x,j⟩:=r;rw[GM ho];obtain⟨g,u,w,a⟩:=Tf h ho;obtain⟨z,d,B,i,b,s⟩:=Gn m g;refine⟨z,d.trans u,by simp;omega,zj.2 ⟨λA=>b x A ((a _).2 (.inl rfl)),i⟩,?_,λy=>?_⟩
   ·intro y hy;rcases zW.1 hy with rfl|hy
    ·exact w
    ·exact λp=>b y hy ((a _).2 (.inr p))
   ·rw[s,a];simp only[zW,exists_eq_or_imp];constructor
    ·rintro(h|h|h)
     ·exact .inl (.inr h)
     ·exact .inl (.inl h)
     ·exact .inr h
    ·rintro((h|h)|h)
     ·exact .inr (.inl h)
     ·exact .inl h
     ·exact .inr (.inr h)
theorem Ip:∀(xs:List Int) {ss:List cH},dI c ss->kT c ss xs->dI c (xs.foldl (fK c) ss)/\(xs.foldl (fK c) ss).map (·.st)=ss.map (·.st)/\∀y,Tk c (xs.foldl (fK c) ss) y↔Tk c ss y/\y∉xs
 | [],ss,h,_=>⟨h,rfl,by simp⟩
 | x::xs,ss,h,hA=>by
  have hx:=hA.1 x aA;obtain⟨k,s,i,u,d,j,_⟩:=Au hx;obtain⟨b,a⟩:=(Hh h.pos).1 j;rw[h.tk s (zG d)]at a;have e:=yP u d j;have p:=h.put d false (i:=i);have g:=hA.next h.pos;obtain⟨r,m,w⟩:=Ip xs (ss:=fK c ss x) (by rw[e];exact p) g;rw[ru];refine⟨r,m.trans (by rw[e];exact Ih d false),λy=>?_⟩;rw[w,e,EV h d a,←b];simp only[za,and_false,false_or,zW,not_or];constructor
  ·rintro⟨⟨b,a⟩,h3⟩;exact⟨a,b,h3⟩
  ·rintro⟨a,b,h3⟩;exact⟨⟨b,a⟩,h3⟩
theorem JI {s:cH}(h0:s.many=0)(i:Nat):s.is i=false:=by
 unfold cH.many at h0;rw[yY]at h0;unfold cH.is;rw[zQ];cases hi:s.tk[i]? with
 | none=>rfl
 | some b=>
  cases b
  ·rfl
  ·exact absurd (zG hi) h0
theorem dI.cK (h:dI c ss):dI c (Go.Ar.cK ss):=⟨h.ok,λs a=>h.tk s (zJ.1 a).1,h.ub.filter _⟩
theorem Il (h:dI c ss){y:Int}:Tk c (cK ss) y↔Tk c ss y:=by
 rw[Uk h.cK,Uk h];constructor
 ·rintro⟨k,s,i,hs,hi,rfl,hb⟩;obtain⟨l,a⟩:=zP (zJ.1 (zG hs)).1;exact⟨l,s,i,a,hi,rfl,hb⟩
 ·rintro⟨k,s,i,hs,hi,rfl,hb⟩;have:s∈cK ss:=zJ.2 ⟨zG hs,by
   have:s.many≠0:=λb=>by rw[JI b i]at hb;cases hb
   simpa using this⟩
  obtain⟨l,a⟩:=zP this;exact⟨l,s,i,a,hi,rfl,hb⟩
theorem DF {x:Nat}:x∈QX ss↔∃s∈ss,s.many=0/\s.st=x:=by
 unfold QX;simp only[zE,zJ,zU,and_assoc]
theorem Je (h:dI c ss){p:Nat}:vM c (cK ss) p↔vM c ss p/\¬∃x∈QX ss,x<=p/\p<x+c.aG:=by
 constructor
 ·rintro⟨s,hs,h1,h2⟩;have d:=zJ.1 hs;refine⟨⟨s,d.1,h1,h2⟩,?_⟩;rintro⟨x,hx,h3,h4⟩;obtain⟨t,g,a,rfl⟩:=DF.1 hx;obtain⟨i,hi⟩:=zP d.1;obtain⟨j,b⟩:=zP g;have e:=h.xH hi b h1 h2 h3 h4;subst e;rw[hi]at b;cases b;simp[a]at d
 ·rintro⟨⟨s,hs,h1,h2⟩,hn⟩;refine⟨s,zJ.2 ⟨hs,?_⟩,h1,h2⟩;have:s.many≠0:=λa=>hn ⟨s.st,DF.2 ⟨s,hs,a,rfl⟩,h1,h2⟩;simpa using this
theorem Oi (h:dI c ss):(QX ss).Pairwise λa b=>a+c.aG<=b:=by
 unfold QX;rw[rp];exact h.ub.filter _
theorem VW {st:Nat}{t:cH}:t∈iv c ss st↔t=⟨st,List.replicate c.n false⟩\/t∈ss:=by
 unfold iv;rw[zM,zW];have:t∈ss↔t∈ss.takeWhile (λs=>decide (s.st<st))\/t∈ss.dropWhile (λs=>decide (s.st<st)):=by
  rw[←zM,List.takeWhile_append_dropWhile]
 rw[this];constructor
 ·rintro(h|h|h)
  ·exact .inr (.inl h)
  ·exact .inl h
  ·exact .inr (.inr h)
 ·rintro(h|h|h)
  ·exact .inr (.inl h)
  ·exact .inl h
  ·exact .inr (.inr h)
theorem JL (h:dI c ss){st:Nat}(hd:∀s∈ss,s.st+c.aG<=st\/st+c.aG<=s.st):dI c (iv c ss st):=by
 refine⟨h.ok,λs m=>?_,?_⟩
 ·rcases VW.1 m with rfl|m
  ·simp
  ·exact h.tk s m
 ·have g:=Gs h.rF st;have r:=h.pg;rw[wY];refine qP.2 ⟨h.ub.sublist (D9 _ _),td.2 ⟨λb d=>?_,h.ub.sublist (List.drop_sublist _ _)⟩,λa u b d=>?_⟩
  ·obtain⟨i,hi⟩:=zP d;rw[lB]at hi;have:=g.2 _ _ hi;rcases hd b (tW d)with h1|h1
   ·omega
   ·exact h1
  ·obtain⟨i,hi⟩:=zP u;rw[zm]at hi;split at hi
   ·rename_i hlt;rcases zW.1 d with rfl|d
    ·have:=(g.2 _ _ hi).2 hlt;rcases hd a (zG hi)with h1|h1
     ·exact h1
     ·omega
    ·obtain⟨j,p⟩:=zP d;rw[lB]at p;exact h.uB hi p O
   ·cases hi
theorem E7 (h:dI c ss){st:Nat}(hd:∀s∈ss,s.st+c.aG<=st\/st+c.aG<=s.st){y:Int}:Tk c (iv c ss st) y↔Tk c ss y:=by
 rw[Uk (JL h hd),Uk h];constructor
 ·rintro⟨k,s,i,hs,hi,rfl,hb⟩;rcases VW.1 (zG hs)with rfl|hm
  ·have:(⟨st,List.replicate c.n false⟩:cH).is i=false:=JI (by simp[cH.many,Ao]) i;rw[this]at hb;cases hb
  ·obtain⟨l,a⟩:=zP hm;exact⟨l,s,i,a,hi,rfl,hb⟩
 ·rintro⟨k,s,i,hs,hi,rfl,hb⟩;obtain⟨l,a⟩:=zP (VW.2 (.inr (zG hs)):s∈iv c ss st);exact⟨l,s,i,a,hi,rfl,hb⟩
theorem Nm {st:Nat}(hd:∀s∈ss,s.st+c.aG<=st\/st+c.aG<=s.st):oe c ss st=0:=by
 unfold oe;rw[zB];simp only[zy,zV,not_exists,not_and];intro s hs hlt;rcases hd s hs with h|h<;>omega
end Go.Ar
namespace Go.Ar
open Go.Bu (ZH Ki ZD qH VP dG take KU Vq Bounded)
def gf (st:List Nat)(p:Nat):Nat:=st.getD p 0
def AR.f (A:AR)(p:Nat):Nat:=gf A.st p
def mM (rs:List (Nat×Nat))(p:Nat):Prop:=∃r∈rs,r.1<=p/\p<r.1+r.2
theorem Lu {st:List Nat}{p:Nat}(h:gf st p≠0):p<st.length:=by
 apply Classical.byContradiction;intro hn;exact h (by unfold gf;rw[zQ,zX O];rfl)
theorem vL {st:List Nat}{a b v p:Nat}(hb:b<=st.length):gf (gF st a b v) p=if a<=p/\p<b then v else gf st p:=by
 unfold gf;rw[zQ,zQ,HV];by_cases hp:p<st.length
 ·rw[cW hp];simp only[zg,qG]
 ·rw[zX O,zB O];rfl
theorem UY {n a m:Nat}:ZH n (a:Int) (m:Int)=true↔1<=m/\a+m<=n:=by
 simp only[ZH,zF,zV];omega
theorem ε {st:List Nat}{a m:Nat}{fr:List Nat}(hl:a+m<=st.length):wc st a m fr=true↔∀p,a<=p->p<a+m->gf st p∈fr:=by
 unfold wc;rw[kx];constructor
 ·intro h p h1 h2;have b:p<st.length:=by omega
  have:st[p]∈(st.drop a).take m:=by
   refine zG (i:=p-a) ?_;rw[zm,zC O,lB,show a+(p-a)=p by omega,cW b]
  have:=h _ this;unfold gf;rw[zQ,cW b];simpa using this
 ·intro h x hx;obtain⟨i,hi⟩:=zP hx;rw[zm]at hi;split at hi
  ·rename_i hlt;rw[lB]at hi;have:=h (a+i) O O;unfold gf at this;rw[zQ,hi]at this;simpa using this
  ·cases hi
theorem FG {st:List Nat}{a m v:Nat}{fr:List Nat}(h1:1<=m)(hl:a+m<=st.length)(h:∀p,a<=p->p<a+m->gf st p∈fr):UQ st (a:Int) (m:Int) v fr=gF st a (a+m) v:=by
 unfold UQ pS;rw[zC (UY.2 ⟨h1,hl⟩),dH,dH,(ε hl).2 h];rfl
structure PG (A:AR):Prop where
 len:A.st.length=A.n
 n1:32<=A.n
 n2:A.n<=1024
 n16:A.n%16=0
 le:∀p,A.f p<=3
 us:∀p,A.f p=1↔A.ow p≠0
 fr:∀p,A.S p=true↔2<=A.f p
 hp:∀p,A.f p=0↔A.f (p/16*16)=0
theorem PG.lt {A:AR}(h:PG A){p:Nat}(hp:A.f p≠0):p<A.n:=h.len▸Lu hp
theorem PG.jD {A:AR}(h:PG A):Bounded A.S A.n:=λp a=>h.lt (by have:=(h.fr p).1 a;omega)
theorem PG.kr {A:AR}(h:PG A){p q:Nat}(e:p/16=q/16):A.f p=0↔A.f q=0:=by rw[h.hp p,h.hp q,e]
theorem PG.same {A B:AR}(h:PG A)(e1:B.n=A.n)(e2:B.st=A.st)(e3:B.S=A.S)(e4:B.ow=A.ow):PG B:=by
 have a:∀p,B.f p=A.f p:=λp=>by unfold AR.f;rw[e2]
 exact⟨by rw[e2,e1];exact h.len,by rw[e1];exact h.n1,by rw[e1];exact h.n2,by rw[e1];exact h.n16,λp=>by rw[a];exact h.le p,λp=>by rw[a,e4];exact h.us p,λp=>by rw[a,e3];exact h.fr p,λp=>by rw[a,a];exact h.hp p⟩
theorem Jy {ow:Nat->Nat}{a m no:Nat}(h1:1<=m)(h2:a+m<=1024)(p:Nat):jN ow a m no p=if a<=p/\p<a+m then no else ow p:=by
 unfold jN;rw[zC (UY.2 ⟨h1,h2⟩)]
theorem Ln {n:Nat}{S:Nat->Bool}{a m:Nat}(h1:1<=m)(h2:a+m<=n)(h:∀p,a<=p->p<a+m->S p=false):Ki n S (a:Int) (m:Int)=dG S a (a+m):=by
 unfold Ki;rw[UY.2 ⟨h1,h2⟩,dH,dH,VP.2 h];rfl
structure Out (A B:AR) (a b:Nat):Prop where
 n:B.n=A.n
 len:B.st.length=A.st.length
 f:∀p,¬(a<=p/\p<b)->B.f p=A.f p
 ow:∀p,¬(a<=p/\p<b)->B.ow p=A.ow p
 S:∀p,¬(a<=p/\p<b)->B.S p=A.S p
theorem Out.pg {A B:AR}{a b v:Nat}(o:Out A B a b)(h:PG A)(hv:v<=3)(hf:∀p,a<=p->p<b->B.f p=v)(hw:∀p,a<=p->p<b->(v=1↔B.ow p≠0))(hS:∀p,a<=p->p<b->(B.S p=true↔2<=v))
 (hz:∀p,B.f p=0↔B.f (p/16*16)=0):PG B:=by
 refine⟨by rw[o.len,o.n];exact h.len,by rw[o.n];exact h.n1,by rw[o.n];exact h.n2,by rw[o.n];exact h.n16,λp=>?_,λp=>?_,λp=>?_,hz⟩
 ·by_cases hp:a<=p/\p<b
  ·rw[hf p hp.1 hp.2];exact hv
  ·rw[o.f p hp];exact h.le p
 ·by_cases hp:a<=p/\p<b
  ·rw[hf p hp.1 hp.2];exact hw p hp.1 hp.2
  ·rw[o.f p hp,o.ow p hp];exact h.us p
 ·by_cases hp:a<=p/\p<b
  ·rw[hf p hp.1 hp.2];exact hS p hp.1 hp.2
  ·rw[o.f p hp,o.S p hp];exact h.fr p
theorem Out.zero {A B:AR}{a b v:Nat}(o:Out A B a b)(h:PG A)(hf:∀p,a<=p->p<b->B.f p=v)(hv:v≠0)(hA:∀p,a<=p->p<b->A.f p≠0):∀p,B.f p=0↔A.f p=0:=by
 intro p;by_cases hp:a<=p/\p<b
 ·rw[hf p hp.1 hp.2];exact⟨λe=>(hv e).elim,λe=>(hA p hp.1 hp.2 e).elim⟩
 ·rw[o.f p hp]
theorem EU {A B:AR}(h:PG A)(e:∀p,B.f p=0↔A.f p=0):∀p,B.f p=0↔B.f (p/16*16)=0:=λp=>by rw[e,e];exact h.hp p
theorem JJ {A:AR}(h:PG A){a m:Nat}(h1:1<=m)(hu:∀p,a<=p->p<a+m->A.f p=1):Out A (Ul A (a,m)) a (a+m)/\(∀p,a<=p->p<a+m->(Ul A (a,m)).f p=2/\(Ul A (a,m)).ow p=0)/\PG (Ul A (a,m))/\∀p,(Ul A (a,m)).f p=0↔A.f p=0:=by
 have j:a+m<=A.n:=by have:=h.lt (p:=a+m-1) (by rw[hu _ O O];omega);omega
 have x:=h.n2;have e1:(Ul A (a,m)).st=gF A.st a (a+m) 2:=FG h1 (by rw[h.len];exact j) λp b d=>by
  have:=hu p b d;unfold AR.f at this;rw[this];simp
 have e2:(Ul A (a,m)).S=dG A.S a (a+m):=Ln h1 j λp b d=>by
  apply nS.2;intro hS;have:=(h.fr p).1 hS;have:=hu p b d;omega
 have u:∀p,(Ul A (a,m)).ow p=if a<=p/\p<a+m then 0 else A.ow p:=λp=>Jy h1 O p
 have r:∀p,(Ul A (a,m)).f p=if a<=p/\p<a+m then 2 else A.f p:=λp=>by unfold AR.f;rw[e1,vL (by rw[h.len];exact j)]
 have o:Out A (Ul A (a,m)) a (a+m):=⟨rfl,by rw[e1,Vo],λp g=>by rw[r,zB g],λp g=>by rw[u,zB g],λp g=>by
  rw[e2];unfold dG;have:(decide (a<=p)&&decide (p<a+m))=false:=by simp;omega
  rw[this,Bool.or_false]⟩
 have i:∀p,a<=p->p<a+m->(Ul A (a,m)).f p=2:=λp b d=>by rw[r,zC ⟨b,d⟩]
 have s:∀p,a<=p->p<a+m->(Ul A (a,m)).ow p=0:=λp b d=>by rw[u,zC ⟨b,d⟩]
 have w:=o.zero h i O λp b d=>by rw[hu p b d];omega
 refine⟨o,λp b d=>⟨i p b d,s p b d⟩,o.pg h O i (λp b d=>by rw[s p b d];simp) (λp b d=>?_) (EU h w),w⟩;rw[e2,KU];exact⟨λ_=>zD _,λ_=>.inr ⟨b,d⟩⟩
structure sC (A B:AR) (rs:List (Nat×Nat)):Prop where
 pg:PG B
 n:B.n=A.n
 tb:B.tb=A.tb
 room:B.room=A.room
 cR:B.cR=A.cR
 cG:B.cG=A.cG
 runs:B.runs=A.runs
 i:∀p,mM rs p->B.f p=2/\B.ow p=0
 o:∀p,¬mM rs p->B.f p=A.f p/\B.ow p=A.ow p
 z:∀p,B.f p=0↔A.f p=0
theorem FH:∀(rs:List (Nat×Nat)) {A:AR},PG A->(∀r∈rs,1<=r.2)->(∀r∈rs,∀p,r.1<=p->p<r.1+r.2->A.f p=1)->rs.Pairwise (λa b=>a.1+a.2<=b.1\/b.1+b.2<=a.1)->sC A (UH A rs) rs
 | [],A,h,_,_,_=>⟨h,rfl,rfl,rfl,rfl,rfl,rfl,λp ⟨r,hr,_⟩=>by simp at hr,λp _=>⟨rfl,rfl⟩,λp=>Iff.rfl⟩
 | (a,m)::rs,A,h,hp,hu,hd=>by
  have hd':=td.1 hd;obtain⟨o,hi,w,B⟩:=JJ h (hp _ (lW ..)) (hu _ (lW ..));have d:=FH rs w (λr hr=>hp r (lg _ hr)) (λr hr p s u=>by
   have:=hd'.1 r hr;simp only at this;rw[o.f p O];exact hu r (lg _ hr) p s u) hd'.2
  have e:UH A ((a,m)::rs)=UH (Ul A (a,m)) rs:=rfl;rw[e];refine⟨d.pg,d.n,d.tb,d.room,d.cR,d.cG,d.runs,λp g=>?_,λp g=>?_,λp=>(d.z p).trans (B p)⟩
  ·by_cases j:mM rs p
   ·exact d.i p j
   ·have:=d.o p j;obtain⟨r,hr,s,u⟩:=g;rcases zW.1 hr with rfl|hr
    ·rw[this.1,this.2];exact hi p s u
    ·exact(j ⟨r,hr,s,u⟩).elim
  ·have j:¬mM rs p:=λ⟨r,hr,x⟩=>g ⟨r,lg _ hr,x⟩;have y:¬(a<=p/\p<a+m):=λx=>g ⟨(a,m),lW ..,x⟩;have:=d.o p j;exact⟨this.1.trans (o.f p y),this.2.trans (o.ow p y)⟩
theorem Dp {A:AR}(h:PG A){a m no:Nat}(h1:1<=m)(hn:no≠0)(hS:∀p,a<=p->p<a+m->A.S p=true):Out A (dT A a m no) a (a+m)/\(∀p,a<=p->p<a+m->(dT A a m no).f p=1/\(dT A a m no).ow p=no)/\PG (dT A a m no)/\∀p,(dT A a m no).f p=0↔A.f p=0:=by
 have i:∀p,a<=p->p<a+m->2<=A.f p:=λp b d=>(h.fr p).1 (hS p b d);have w:a+m<=A.n:=by have:=h.lt (p:=a+m-1) (by have:=i (a+m-1) O O;omega);omega
 have y:=h.n2;have e1:(dT A a m no).st=gF A.st a (a+m) 1:=FG h1 (by rw[h.len];exact w) λp b d=>by
  have B:=i p b d;have z:=h.le p;unfold AR.f at B z;have:gf A.st p=2\/gf A.st p=3:=by omega
  simpa using this
 have u:∀p,(dT A a m no).ow p=if a<=p/\p<a+m then no else A.ow p:=λp=>Jy h1 O p
 have r:∀p,(dT A a m no).f p=if a<=p/\p<a+m then 1 else A.f p:=λp=>by unfold AR.f;rw[e1,vL (by rw[h.len];exact w)]
 have o:Out A (dT A a m no) a (a+m):=⟨rfl,by rw[e1,Vo],λp g=>by rw[r,zB g],λp g=>by rw[u,zB g],λp g=>by
  show take A.S a (a+m) p=A.S p;unfold take;have:(decide (a<=p)&&decide (p<a+m))=false:=by simp;omega
  rw[this];simp⟩
 have j:∀p,a<=p->p<a+m->(dT A a m no).f p=1:=λp b d=>by rw[r,zC ⟨b,d⟩]
 have s:∀p,a<=p->p<a+m->(dT A a m no).ow p=no:=λp b d=>by rw[u,zC ⟨b,d⟩]
 have x:=o.zero h j O λp b d=>by have:=i p b d;omega
 refine⟨o,λp b d=>⟨j p b d,s p b d⟩,o.pg h O j (λp b d=>by rw[s p b d];simp[hn]) (λp b d=>?_) (EU h x),x⟩;show take A.S a (a+m) p=true↔_;rw[Vq];constructor
 ·rintro⟨_,hx⟩;exact(hx ⟨b,d⟩).elim
 ·intro hx;omega
theorem LN:∀(m:Nat) {st:List Nat} {a:Nat},(a+m)*16<=st.length->(∀p,a*16<=p->p<(a+m)*16->gf st p=0)->(Hm st a m).length=st.length/\∀p,gf (Hm st a m) p=if a*16<=p/\p<(a+m)*16 then 3 else gf st p
 | 0,st,a,hl,hz=>⟨rfl,λp=>by rw[zB O];rfl⟩
 | m+1,st,a,hl,hz=>by
  obtain⟨i1,i2⟩:=LN m (st:=st) (a:=a) O λp d g=>hz p d O;rw[J7];have b:gf (Hm st a m) (16*(a+m))=0:=by rw[i2,zB O];exact hz _ O O
  have ok:kJ (Hm st a m) ((a+m:Nat):Int)=0:=by
   unfold kJ;rw[FC (by rw[i1];omega),zC rfl,dH];unfold gf at b;rw[zC b]
  have e:jb (Hm st a m) ((a+m:Nat):Int)=gF (Hm st a m) (16*(a+m)) (16*(a+m)+16) 3:=by
   unfold jb;rw[zC ok,dH]
  rw[e];refine⟨by rw[Vo,i1],λp=>?_⟩;rw[vL (by rw[i1];omega),i2];by_cases h1:16*(a+m)<=p/\p<16*(a+m)+16
  ·rw[zC h1,zC O]
  ·rw[zB h1];by_cases h2:a*16<=p/\p<(a+m)*16
   ·rw[zC h2,zC O]
   ·rw[zB h2,zB O]
theorem CZ {sp:Sp}{s m:Nat}(h:fF sp (s:Int) (m:Int)=0):1<=m/\s+m<=sp.st.length/\∀p,s<=p->p<s+m->gf sp.st p=0:=by
 unfold fF at h;split at h
 ·rename_i hr;obtain⟨b,d⟩:=UY.1 hr;rw[dH,dH]at h;split at h
  ·cases h
  ·rename_i hn;refine⟨b,d,λp j r=>?_⟩;have a:p<sp.st.length:=by omega
   have g:sp.st[p]∈(sp.st.drop s).take m:=by
    refine zG (i:=p-s) ?_;rw[zm,zC O,lB,show s+(p-s)=p by omega,cW a]
   simp only[zy,not_exists,not_and]at hn;have:=hn _ g;unfold gf;rw[zQ,cW a];simpa using this
 ·cases h
structure Grown (A B:AR) (sp sp':Sp) (s size:Nat):Prop where
 pg:PG B
 n:B.n=A.n
 tb:B.tb=A.tb
 room:B.room=A.room
 cR:B.cR=A.cR
 cG:B.cG=A.cG
 runs:B.runs=A.runs
 ow:B.ow=A.ow
 PT:s%16=0
 s1:16<=s
 sl:s+size<=A.n
 un:∀p,s<=p->p<s+size->gf sp.st p=0
 i:∀p,s<=p->p<s+size->B.f p=3/\gf sp'.st p=1
 o:∀p,¬(s<=p/\p<s+size)->B.f p=A.f p/\gf sp'.st p=gf sp.st p
 w:∀x,¬(s*32<=x/\x<(s+size)*32)->sp'.wd x=sp.wd x
 l:sp'.st.length=sp.st.length
 pk:sp'.pk=sp.pk
theorem Hq {sp:Sp}{size s:Nat}(h1:1<=size)(h:dB sp size=some s):fF sp (s:Int) (size:Int)=0/\s≠0/\(∃j,s=j*size)/\∀j,j*size<s->1<=j->fF sp ((j*size:Nat):Int) (size:Int)≠0:=by
 unfold dB at h;obtain⟨u,us,vs,w,A⟩:=List.find?_eq_some_iff_append.1 h;simp only[zF,bne_iff_ne,ne_eq,zU]at u;have g:s∈(List.range (sp.st.length/size)).map (· * size):=by rw[w];simp
 obtain⟨j,z,rfl⟩:=zE.1 g;rw[ze]at z;refine⟨u.2,u.1,⟨j,rfl⟩,λi hi y=>?_⟩;have x:i<j:=Nat.lt_of_mul_lt_mul_right hi;have:i*size∈us:=by
  have m:i*size∈(List.range (sp.st.length/size)).map (· * size):=zE.2 ⟨i,ze.2 O,rfl⟩;have d:((List.range (sp.st.length/size)).map (· * size)).Pairwise (· < ·):=by
   rw[rp];exact List.pairwise_lt_range.imp λ{a b} p=>Nat.mul_lt_mul_of_pos_right p O
  rw[w]at m d;rcases zM.1 m with h|h
  ·exact h
  ·rcases zW.1 h with h|h
   ·have:=xO O h;omega
   ·have:=(td.1 (qP.1 d).2.1).1 _ h;omega
 have:=A _ this;have r:i*size≠0:=by
  have:=Nat.mul_pos (show 0<i by omega) (show 0<size by omega);omega
 simpa[r]using this
theorem J8 {sp:Sp}{s m:Nat}(h:fF sp (s:Int) (m:Int)=0):(gp sp (s:Int) (m:Int)).st.length=sp.st.length/\(∀p,gf (gp sp (s:Int) (m:Int)).st p=if s<=p/\p<s+m then 1 else gf sp.st p)/\(∀x,¬(s*32<=x/\x<(s+m)*32)->(gp sp (s:Int) (m:Int)).wd x=sp.wd x)/\(gp sp (s:Int) (m:Int)).pk=sp.pk:=by
 obtain⟨d,a,_⟩:=CZ h;unfold gp;rw[zC h,dH,dH];refine⟨by simp[Sp.set,Vo],λp=>vL a,λx b=>?_,rfl⟩;show(if s*32<=x/\x<(s+m)*32 then 0 else sp.wd x)=_
 rw[zB b]
theorem OB {A:AR}{sp:Sp}(h:PG A)(hl:sp.st.length=A.n)(hz:∀p,gf sp.st p=0->A.f p=0){size:Nat}(hs:size=16\/size=32\/size=64){B:AR}{sp':Sp}(hg:Hk A sp size=some (B,sp')) :
 ∃s,dB sp size=some s/\Grown A B sp sp' s size:=by
 unfold Hk at hg;split at hg
 ·cases hg
 ·rename_i s hgs;cases hg;obtain⟨C,E,⟨j,K⟩,_⟩:=Hq O hgs;obtain⟨H,D,x⟩:=CZ C;have r:s%16=0:=by rcases hs with rfl|rfl|rfl<;>omega
  have w:size%16=0:=by rcases hs with rfl|rfl|rfl<;>omega
  have e1:s/16*16=s:=by omega
  have e2:(s/16+size/16)*16=s+size:=by omega
  have g:∀p,s<=p->p<s+size->A.f p=0:=λp b d=>hz p (x p b d);obtain⟨F,i⟩:=LN (size/16) (st:=A.st) (a:=s/16) (by rw[e2,h.len,←hl];exact D) (by rw[e1,e2];exact g);rw[e1,e2]at i;obtain⟨G,y,J,b4⟩:=J8 C;have m:s+size<=A.n:=by rw[←hl];exact D
  have z:Ki A.n A.S (s:Int) (size:Int)=dG A.S s (s+size):=Ln H m λp b d=>by
   apply nS.2;intro hS;have:=(h.fr p).1 hS;have:=g p b d;omega
  refine⟨s,hgs,⟨?_,rfl,rfl,rfl,rfl,rfl,rfl,rfl,r,O,m,x,λp b d=>⟨?_,?_⟩,λp hp=>⟨?_,?_⟩,J,G,b4⟩⟩
  ·have o:Out A {A with st:=Hm A.st (s/16) (size/16),S:=Ki A.n A.S (s:Int) (size:Int)} s (s+size):=⟨rfl,F,λp hp=>by show gf _ p=_;rw[i,zB hp];rfl,λp hp=>rfl,λp hp=>by
    show Ki A.n A.S (s:Int) (size:Int) p=A.S p;rw[z];unfold dG;have:(decide (s<=p)&&decide (p<s+size))=false:=by simp;omega
    rw[this,Bool.or_false]⟩
   have u:∀p,s<=p->p<s+size->AR.f {A with st:=Hm A.st (s/16) (size/16),S:=Ki A.n A.S (s:Int) (size:Int)} p=3:=λp b d=>by show gf _ p=3;rw[i,zC ⟨b,d⟩]
   refine o.pg h (zD _) u (λp b d=>?_) (λp b d=>?_) λp=>?_
   ·have E:=g p b d;have:=h.us p;constructor
    ·intro hx;omega
    ·intro hx;have:=this.2 hx;omega
   ·show Ki A.n A.S (s:Int) (size:Int) p=true↔_;rw[z,KU];exact⟨λ_=>O,λ_=>.inr ⟨b,d⟩⟩
   ·by_cases hp:s<=p/\p<s+size
    ·rw[u p hp.1 hp.2,u (p/16*16) O O]
    ·rw[o.f p hp,o.f (p/16*16) O];exact h.hp p
  ·show gf (Hm A.st (s/16) (size/16)) p=3;rw[i,zC ⟨b,d⟩]
  ·rw[y,zC ⟨b,d⟩]
  ·show gf (Hm A.st (s/16) (size/16)) p=A.f p;rw[i,zB hp];rfl
  ·rw[y,zB hp]
end Go.Ar
namespace Go.Ar
open Go.Bu (ZH Ki ZD qH VP dG take KU Vq Bounded full can YU U9 Z2 Kq Qd WW Ks QJ)
def Cl (A:AR)(k:Nat)(c:cA)(ss:List cH):Prop:=A.tb[k]?=some c/\A.cG[k]?=some ss
def fR (A:AR)(k:Nat)(x:Int):Prop:=∃c ss,Cl A k c ss/\Tk c ss x
def ib (A:AR)(k:Nat)(x:Int):Prop:=∃t,A.cR[k]?=some t/\x∈t.bs.flatten
structure GA (A:AR):Prop where
 pg:PG A
 tb:A.tb.length<=40
 lc:A.cG.length=A.tb.length
 lt:A.cR.length=A.tb.length
 cG:∀k c ss,Cl A k c ss->dI c ss
 one:∀k c ss,Cl A k c ss->∀s∈ss,s.st/16=(s.st+c.aG-1)/16
 ow:∀k c ss,Cl A k c ss->∀p,A.ow p=k+1↔vM c ss p
 kj:∀p,A.ow p=41↔mM A.runs p
 sZ:∀p,A.ow p=41\/A.ow p<=A.tb.length
 gZ:∀r∈A.runs,1<=r.2
 kK:A.runs.Pairwise λa b=>a.1+a.2<=b.1\/b.1+b.2<=a.1
 qD:∀(k:Nat) (t:gR),A.cR[k]?=some t->t.bs.flatten.Nodup
 mw:∀(k:Nat) c ss (t:gR),Cl A k c ss->A.cR[k]?=some t->∀x∈t.bs.flatten,Tk c ss x
 oR:∀(k:Nat) (c:cA) (t:gR),A.tb[k]?=some c->A.cR[k]?=some t->∀xs∈t.bs,xs.length=c.batch
structure Kp (A B:AR):Prop where
 n:B.n=A.n
 tb:B.tb=A.tb
 room:B.room=A.room
 z:∀p,B.f p=0↔A.f p=0
 t:∀p,B.f p=3->A.f p=3
theorem Kp.refl (A:AR):Kp A A:=⟨rfl,rfl,rfl,λ_=>Iff.rfl,λ_=>id⟩
theorem Kp.trans {A B C:AR}(h:Kp A B)(k:Kp B C):Kp A C:=⟨k.n.trans h.n,k.tb.trans h.tb,k.room.trans h.room,λp=>(k.z p).trans (h.z p),λp a=>h.t p (k.t p a)⟩
theorem Kp.aG {A B:AR}(e1:B.n=A.n)(e2:B.tb=A.tb)(e3:B.room=A.room)(e4:B.st=A.st):Kp A B:=⟨e1,e2,e3,λp=>by unfold AR.f;rw[e4],λp=>by unfold AR.f;rw[e4];exact id⟩
variable {A:AR}{k:Nat}{c:cA}{ss:List cH}
theorem Cl.lt (h:Cl A k c ss):k<A.tb.length:=(cY.1 h.1).1
theorem Cl.eq {c':cA}{ss':List cH}(h:Cl A k c ss)(h':Cl A k c' ss'):c=c'/\ss=ss':=⟨Option.some.inj (h.1.symm.trans h'.1),Option.some.inj (h.2.symm.trans h'.2)⟩
theorem GA.cl (h:GA A){k:Nat}(hk:k<A.tb.length):∃c ss t,Cl A k c ss/\A.cR[k]?=some t:=by
 have a:=h.lc;have b:=h.lt;exact⟨A.tb[k],A.cG[k],A.cR[k],⟨by simp,by simp⟩,by simp⟩
theorem GA.used (h:GA A)(hk:Cl A k c ss){s:cH}(hs:s∈ss){p:Nat}(h1:s.st<=p)(h2:p<s.st+c.aG):A.f p=1/\A.ow p=k+1:=by
 have:=(h.ow k c ss hk p).2 ⟨s,hs,h1,h2⟩;exact⟨(h.pg.us p).2 O,this⟩
theorem GA.jE (h:GA A){r:Nat×Nat}(hr:r∈A.runs){p:Nat}(h1:r.1<=p)(h2:p<r.1+r.2):A.f p=1/\A.ow p=41:=by
 have:=(h.kj p).2 ⟨r,hr,h1,h2⟩;exact⟨(h.pg.us p).2 O,this⟩
theorem GA.gT (h:GA A){r s:Nat×Nat}(hr:r∈A.runs)(hs:s∈A.runs){x:Nat}(h1:r.1<=x)(h2:x<r.1+r.2)(h3:s.1<=x)(h4:x<s.1+s.2):r=s:=by
 obtain⟨i,hi⟩:=zP hr;obtain⟨j,d⟩:=zP hs;obtain⟨b,rfl⟩:=cY.1 hi;obtain⟨a,rfl⟩:=cY.1 d;rcases qO i j with hl|hl|hl
 ·have:=mC.1 h.kK i j b a hl;omega
 ·subst hl;rfl
 ·have:=mC.1 h.kK j i a b hl;omega
theorem GA.fit (h:GA A){r:Nat×Nat}(hr:r∈A.runs):r.1+r.2<=A.n:=by
 have:=h.gZ r hr;have:=h.pg.lt (p:=r.1+r.2-1) (by rw[(h.jE hr (p:=r.1+r.2-1) O O).1];omega);omega
theorem GA.pN (h:GA A):iO A:=by
 have u:=h.pg.n2;refine⟨λr b s i x d g j m=>h.gT b i d g j m,λx p a=>?_,λx p w a=>?_,λr b=>?_⟩
 ·obtain⟨r,b,d,g⟩:=(h.kj x).1 a;unfold sL;rw[Bs];exact⟨r,b,by simp[d,g]⟩
 ·rcases h.sZ x with e|e
  ·exact(a e).elim
  ·exact e
 ·have:=h.fit b;omega
theorem UR (hk:Cl A k c ss){ss':List cH}{j:Nat}{d:cA}{tt:List cH}(h:Cl {A with cG:=A.cG.set k ss'} j d tt):(j=k/\d=c/\tt=ss')\/(j≠k/\Cl A j d tt):=by
 obtain⟨b,a⟩:=h;by_cases hjk:j=k
 ·subst hjk;have g:=(cY.1 hk.2).1;simp only[zO g]at a;exact .inl ⟨rfl,Option.some.inj (b.symm.trans hk.1),(Option.some.inj a).symm⟩
 ·simp only[zh (Ne.symm hjk)]at a;exact .inr ⟨hjk,b,a⟩
theorem Hu (hk:Cl A k c ss)(ss':List cH):Cl {A with cG:=A.cG.set k ss'} k c ss':=⟨hk.1,zO (cY.1 hk.2).1⟩
theorem O9 {ss':List cH}{j:Nat}{d:cA}{tt:List cH}(hjk:j≠k)(h:Cl A j d tt):Cl {A with cG:=A.cG.set k ss'} j d tt:=⟨h.1,(zh (Ne.symm hjk)).trans h.2⟩
theorem GA.lu (h:GA A)(hk:Cl A k c ss){ss':List cH}(hC:dI c ss')(hst:ss'.map (·.st)=ss.map (·.st))(ht:∀t,A.cR[k]?=some t->∀x∈t.bs.flatten,Tk c ss' x):GA {A with cG:=A.cG.set k ss'}:=by
 refine⟨h.pg.same rfl rfl rfl rfl,h.tb,by simp[h.lc],h.lt,λj d b a=>?_,λj d b a s i=>?_,λj d b a p=>?_,h.kj,h.sZ,h.gZ,h.kK,h.qD,λj d b t a g=>?_,h.oR⟩
 ·rcases UR hk a with⟨rfl,rfl,rfl⟩|⟨hne,a⟩
  ·exact hC
  ·exact h.cG j d b a
 ·rcases UR hk a with⟨rfl,rfl,rfl⟩|⟨hne,a⟩
  ·have:s.st∈ss.map (·.st):=by rw[←hst];exact zE.2 ⟨s,i,rfl⟩
   obtain⟨t,ht,e⟩:=zE.1 this;rw[←e];exact h.one _ _ _ hk t ht
  ·exact h.one j d b a s i
 ·rcases UR hk a with⟨rfl,rfl,rfl⟩|⟨hne,a⟩
  ·rw[ο hst];exact h.ow _ _ _ hk p
  ·exact h.ow j d b a p
 ·rcases UR hk a with⟨rfl,rfl,rfl⟩|⟨hne,a⟩
  ·exact ht t g
  ·exact h.mw j d b t a g
theorem AY (hk:Cl A k c ss){ss':List cH}{j:Nat}{x:Int}:fR {A with cG:=A.cG.set k ss'} j x↔(j=k/\Tk c ss' x)\/(j≠k/\fR A j x):=by
 constructor
 ·rintro⟨d,tt,hj,hx⟩;rcases UR hk hj with⟨rfl,rfl,rfl⟩|⟨hne,hj⟩
  ·exact .inl ⟨rfl,hx⟩
  ·exact .inr ⟨hne,d,tt,hj,hx⟩
 ·rintro(⟨rfl,hx⟩|⟨hne,d,tt,hj,hx⟩)
  ·exact⟨c,ss',Hu hk ss',hx⟩
  ·exact⟨d,tt,O9 hne hj,hx⟩
theorem VM (hk:Cl A k c ss){x:Int}:fR A k x↔Tk c ss x:=by
 constructor
 ·rintro⟨d,tt,hj,hx⟩;obtain⟨rfl,rfl⟩:=hk.eq hj;exact hx
 ·intro hx;exact⟨c,ss,hk,hx⟩
def swp (A:AR)(k:Nat)(c:cA)(ss:List cH):AR:=UH {A with cG:=A.cG.set k (cK ss)} ((QX ss).map λs=>(s,c.aG))
theorem Db {p:Nat}:mM ((QX ss).map λs=>(s,c.aG)) p↔∃x∈QX ss,x<=p/\p<x+c.aG:=by
 unfold mM;simp only[zE];constructor
 ·rintro⟨_,⟨x,hx,rfl⟩,h⟩;exact⟨x,hx,h⟩
 ·rintro⟨x,hx,h⟩;exact⟨_,⟨x,hx,rfl⟩,h⟩
theorem GA.ke (h:GA A)(hk:Cl A k c ss){x:Nat}(hx:x∈QX ss){p:Nat}(h1:x<=p)(h2:p<x+c.aG):A.f p=1/\A.ow p=k+1:=by
 obtain⟨s,a,_,rfl⟩:=DF.1 hx;exact h.used hk a h1 h2
theorem GA.rh (h:GA A)(hk:Cl A k c ss):sC {A with cG:=A.cG.set k (cK ss)} (swp A k c ss) ((QX ss).map λs=>(s,c.aG)):=by
 have i:=h.cG k c ss hk;refine FH _ (h.pg.same rfl rfl rfl rfl) (λr g=>?_) (λr g p j m=>?_) ?_
 ·obtain⟨x,_,rfl⟩:=zE.1 g;exact i.pg
 ·obtain⟨x,u,rfl⟩:=zE.1 g;exact(h.ke hk u j m).1
 ·rw[rp];exact(Oi i).imp λ{a b} d=>.inl d
theorem GA.swp (h:GA A)(hk:Cl A k c ss):GA (Go.Ar.swp A k c ss):=by
 have b:=h.rh hk;have w:=h.cG k c ss hk;have B:=hk.lt;have F:=h.tb;have cl:∀{j d m},Cl (Go.Ar.swp A k c ss) j d m->(j=k/\d=c/\m=cK ss)\/(j≠k/\Cl A j d m):=λ{j d m} a=>UR hk ⟨by rw[←b.tb];exact a.1,by rw[←b.cG];exact a.2⟩;have own:∀p,mM ((QX ss).map λs=>(s,c.aG)) p->A.ow p=k+1:=λp g=>by
  obtain⟨x,r,D,E⟩:=Db.1 g;exact(h.ke hk r D E).2
 have cR:(Go.Ar.swp A k c ss).cR=A.cR:=b.cR;have tb:(Go.Ar.swp A k c ss).tb=A.tb:=b.tb;have runs:(Go.Ar.swp A k c ss).runs=A.runs:=b.runs;refine⟨b.pg,by rw[tb];exact h.tb,by rw[b.cG,tb];simp[h.lc],by rw[cR,tb];exact h.lt,λj d m a=>?_,λj d m a s y=>?_,λj d m a p=>?_,λp=>?_,λp=>?_,by rw[runs];exact h.gZ,by rw[runs];exact h.kK,by rw[cR];exact h.qD,λj d m t a u=>?_,by rw[cR,tb];exact h.oR⟩
 ·rcases cl a with⟨rfl,rfl,rfl⟩|⟨hne,a⟩
  ·exact w.cK
  ·exact h.cG j d m a
 ·rcases cl a with⟨rfl,rfl,rfl⟩|⟨hne,a⟩
  ·exact h.one _ _ _ hk s (zJ.1 y).1
  ·exact h.one j d m a s y
 ·by_cases g:mM ((QX ss).map λs=>(s,c.aG)) p
  ·rw[(b.i p g).2];have C:=own p g;rcases cl a with⟨rfl,rfl,rfl⟩|⟨hne,a⟩
   ·rw[Je w];constructor
    ·intro e;omega
    ·rintro⟨_,hn⟩;exact(hn (Db.1 g)).elim
   ·rw[←h.ow j d m a p,C];omega
  ·rw[(b.o p g).2];rcases cl a with⟨rfl,rfl,rfl⟩|⟨hne,a⟩
   ·rw[Je w];show A.ow p=_↔_;rw[h.ow _ _ _ hk p];exact⟨λr=>⟨r,λz=>g (Db.2 z)⟩,λr=>r.1⟩
   ·exact h.ow j d m a p
 ·rw[runs];by_cases g:mM ((QX ss).map λs=>(s,c.aG)) p
  ·rw[(b.i p g).2,←h.kj,own p g];omega
  ·rw[(b.o p g).2];exact h.kj p
 ·rw[tb];by_cases g:mM ((QX ss).map λs=>(s,c.aG)) p
  ·rw[(b.i p g).2];omega
  ·rw[(b.o p g).2];exact h.sZ p
 ·rw[cR]at u;rcases cl a with⟨rfl,rfl,rfl⟩|⟨hne,a⟩
  ·intro x r;exact(Il w).2 (h.mw _ _ _ t hk u x r)
  ·exact h.mw j d m t a u
theorem GA.CM (h:GA A)(hk:Cl A k c ss):Kp A (Go.Ar.swp A k c ss):=by
 have b:=h.rh hk;refine⟨b.n,b.tb,b.room,b.z,λp a=>?_⟩;by_cases hi:mM ((QX ss).map λs=>(s,c.aG)) p
 ·rw[(b.i p hi).1]at a;omega
 ·rw[(b.o p hi).1]at a;exact a
theorem GA.D6 (h:GA A)(hk:Cl A k c ss){j:Nat}{x:Int}:fR (Go.Ar.swp A k c ss) j x↔fR A j x:=by
 have b:=h.rh hk;have a:=h.cG k c ss hk;have e:fR (Go.Ar.swp A k c ss) j x↔fR {A with cG:=A.cG.set k (cK ss)} j x:=by unfold fR Cl;rw[b.tb,b.cG]
 rw[e,AY hk,Il a];constructor
 ·rintro(⟨rfl,hx⟩|⟨_,hx⟩)
  ·exact(VM hk).2 hx
  ·exact hx
 ·intro hx;by_cases hjk:j=k
  ·subst hjk;exact .inl ⟨rfl,(VM hk).1 hx⟩
  ·exact .inr ⟨hjk,hx⟩
theorem HE {k:Int}:A.ck k=true↔∃j:Nat,k=j/\j<A.tb.length:=by
 unfold AR.ck;simp only[zF,zV];constructor
 ·intro h;exact⟨k.toNat,O,O⟩
 ·rintro⟨j,rfl,h⟩;omega
structure Ob (A B:AR):Prop where
 ga:GA B
 kp:Kp A B
 runs:B.runs=A.runs
theorem I9 (h:GA A)(k m:Int):Ob A (YT A k m)/\(YT A k m).cR=A.cR/\(YB A k m).Nodup/\(YB A k m≠[]->∃j:Nat,k=j/\j<A.tb.length)/\(∀x∈YB A k m,¬fR A k.toNat (x:Int)) ∧
 ∀j y,fR (YT A k m) j y↔fR A j y\/(j=k.toNat/\∃x∈YB A k m,y=((x:Nat):Int)):=by
 by_cases h0:Kd A k m=0
 ·have g:A.ck k=true:=by
   unfold Kd at h0;split at h0
   ·assumption
   ·cases h0
  obtain⟨j,rfl,u⟩:=HE.1 g;obtain⟨c,ss,t,b,E⟩:=h.cl u;have s:VX A (j:Int) m=KI c m.toNat ss:=by unfold VX;rw[dH,b.1,b.2]
  have r:YT A (j:Int) m = {A with cG:=A.cG.set j (KI c m.toNat ss).2}:=by unfold YT;rw[zC h0,s,dH]
  have d:YB A (j:Int) m=(KI c m.toNat ss).1:=by unfold YB;rw[zC h0,s]
  rw[r,d];obtain⟨s1,s2,D,B,z,w⟩:=Gn m.toNat (h.cG j c ss b);refine⟨⟨h.lu b s1 s2 λC p x a=>(w x).2 (.inr (h.mw j c ss C b p x a)),Kp.aG rfl rfl rfl rfl,rfl⟩,rfl,B,λ_=>⟨j,rfl,u⟩,λx a=>?_,λi y=>?_⟩
  ·rw[dH,VM b];exact z x a
  ·rw[AY b,w,dH];by_cases hij:i=j
   ·subst hij;rw[VM b];constructor
    ·rintro(⟨_,a|a⟩|⟨a,_⟩)
     ·exact .inr ⟨rfl,a⟩
     ·exact .inl a
     ·exact(a rfl).elim
    ·rintro(a|⟨_,a⟩)
     ·exact .inl ⟨rfl,.inr a⟩
     ·exact .inl ⟨rfl,.inl a⟩
   ·constructor
    ·rintro(⟨a,_⟩|⟨_,a⟩)
     ·exact(hij a).elim
     ·exact .inl a
    ·rintro(a|⟨a,_⟩)
     ·exact .inr ⟨hij,a⟩
     ·exact(hij a).elim
 ·have r:YT A k m=A:=by unfold YT;rw[zB h0]
  have d:YB A k m=[]:=by unfold YB;rw[zB h0]
  rw[r,d];exact⟨⟨h,Kp.refl A,rfl⟩,rfl,uz,by simp,by simp,by simp⟩
theorem Ez {xs:List Int}(h:kT c ss xs):iJ c ss xs=0:=by
 unfold iJ;have b:xs.any (λx=>(eH c ss x).isNone)=false:=by
  rw[my];intro x hx;rw[h.1 x hx];simp
 have a:xs.any (λx=>eH c ss x==some false)=false:=by
  rw[my];intro x hx;rw[h.1 x hx];simp
 rw[b,a,zI h.2];rfl
theorem Gw (h:GA A)(hk:Cl A k c ss)(xs:List Int):Kv A (k:Int) xs=iJ c ss xs:=by
 unfold Kv;rw[HE.2 ⟨k,rfl,hk.lt⟩,zC rfl,dH,hk.1,hk.2]
theorem DC (h:GA A){k:Int}{xs:List Int}(h0:Kv A k xs=0):∃(j:Nat) (c:cA) (ss:List cH),k=j/\Cl A j c ss/\kT c ss xs:=by
 have a:A.ck k=true:=by
  unfold Kv at h0;split at h0
  ·assumption
  ·cases h0
 obtain⟨j,rfl,d⟩:=HE.1 a;obtain⟨c,ss,t,b,g⟩:=h.cl d;rw[Gw h b]at h0;exact⟨j,c,ss,rfl,b,IH h0⟩
theorem Ci (h:GA A){k:Int}{xs:List Int}(hd:Kv A k xs=0->∀x∈xs,¬ib A k.toNat x):Ob A (ZZ A k xs)/\(ZZ A k xs).cR=A.cR ∧
 (Kv A k xs=0->∀j y,fR (ZZ A k xs) j y↔fR A j y/\¬(j=k.toNat/\y∈xs))/\(Kv A k xs≠0->ZZ A k xs=A):=by
 by_cases h0:Kv A k xs=0
 ·obtain⟨j,c,m,rfl,g,B⟩:=DC h h0;obtain⟨z,C,w⟩:=Ip xs (h.cG j c m g) B;have r:=h.lu g z C λt u x a=>(w x).2 ⟨h.mw j c m t g u x a,λE=>hd h0 x E ⟨t,by rw[dH];exact u,a⟩⟩;have d:=Hu g (xs.foldl (fK c) m);have s:ZZ A (j:Int) xs=swp {A with cG:=A.cG.set j (xs.foldl (fK c) m)} j c (xs.foldl (fK c) m):=by
   unfold ZZ swp;rw[zC h0,dH,g.1,g.2];simp only[nO]
  have b:=r.rh d;rw[s];refine⟨⟨r.swp d,(Kp.aG rfl rfl rfl rfl:Kp A {A with cG:=A.cG.set j (xs.foldl (fK c) m)}).trans (r.CM d),b.runs⟩,b.cR,λ_ i y=>?_,λD=>(D h0).elim⟩;rw[r.D6 d,AY g,w,dH];by_cases hij:i=j
  ·subst hij;rw[VM g];constructor
   ·rintro(⟨_,a,hy⟩|⟨a,_⟩)
    ·exact⟨a,λp=>hy p.2⟩
    ·exact(a rfl).elim
   ·rintro⟨a,hy⟩;exact .inl ⟨rfl,a,λp=>hy ⟨rfl,p⟩⟩
  ·constructor
   ·rintro(⟨a,_⟩|⟨_,a⟩)
    ·exact(hij a).elim
    ·exact⟨a,λp=>hij p.1⟩
   ·rintro⟨a,_⟩;exact .inr ⟨hij,a⟩
 ·have s:ZZ A k xs=A:=by unfold ZZ;rw[zB h0]
  rw[s];exact⟨⟨h,Kp.refl A,rfl⟩,rfl,λa=>(h0 a).elim,λ_=>rfl⟩
theorem GA.kc (h:GA A){k:Nat}{t':gR}(h1:t'.bs.flatten.Nodup)(h2:∀x∈t'.bs.flatten,fR A k x)(h3:∀c,A.tb[k]?=some c->∀xs∈t'.bs,xs.length=c.batch):GA {A with cR:=A.cR.set k t'}:=by
 have get:∀{j t},(A.cR.set k t')[j]?=some t->(j=k/\t=t')\/(j≠k/\A.cR[j]?=some t):=by
  intro j t a;by_cases hjk:j=k
  ·subst hjk;have i:j<A.cR.length:=by have:=(cY.1 a).1;simpa using this
   rw[zO i]at a;exact .inl ⟨rfl,(Option.some.inj a).symm⟩
  ·rw[zh (Ne.symm hjk)]at a;exact .inr ⟨hjk,a⟩
 refine⟨h.pg.same rfl rfl rfl rfl,h.tb,h.lc,by simp[h.lt],h.cG,h.one,h.ow,h.kj,h.sZ,h.gZ,h.kK,λj t a=>?_,λj c g t b a x d=>?_,λj c t b a=>?_⟩
 ·rcases get a with⟨rfl,rfl⟩|⟨_,a⟩
  ·exact h1
  ·exact h.qD j t a
 ·rcases get a with⟨rfl,rfl⟩|⟨_,a⟩
  ·exact(VM b).1 (h2 x d)
  ·exact h.mw j c g t b a x d
 ·rcases get a with⟨rfl,rfl⟩|⟨_,a⟩
  ·exact h3 c b
  ·exact h.oR j c t b a
theorem Ak {t':gR}{j:Nat}{x:Int}(hk:k<A.cR.length):ib {A with cR:=A.cR.set k t'} j x↔(j=k/\x∈t'.bs.flatten)\/(j≠k/\ib A j x):=by
 by_cases hjk:j=k
 ·subst hjk;have a:(A.cR.set j t')[j]?=some t':=zO hk;constructor
  ·rintro⟨t,e,hx⟩;have e:(A.cR.set j t')[j]?=some t:=e;rw[a]at e;cases e;exact .inl ⟨rfl,hx⟩
  ·rintro(⟨_,hx⟩|⟨hx,_⟩)
   ·exact⟨_,a,hx⟩
   ·exact(hx rfl).elim
 ·have a:(A.cR.set k t')[j]?=A.cR[j]? := zh (Ne.symm hjk);constructor
  ·rintro⟨t,e,hx⟩;have e:(A.cR.set k t')[j]?=some t:=e;rw[a]at e;exact .inr ⟨hjk,t,e,hx⟩
  ·rintro(⟨hx,_⟩|⟨_,t,e,hx⟩)
   ·exact(hjk hx).elim
   ·exact⟨t,a.trans e,hx⟩
theorem Gm {t:gR}(ht:A.cR[k]?=some t){x:Int}:ib A k x↔x∈t.bs.flatten:=by
 constructor
 ·rintro⟨t',e,hx⟩;rw[ht]at e;cases e;exact hx
 ·intro hx;exact⟨t,ht,hx⟩
theorem Ia (h:GA A)(k:Int):Ob A (Z1 A k)/\(∀j y,fR (Z1 A k) j y↔fR A j y)/\(∀x∈YR A k,ib A k.toNat x)/\(YR A k).Nodup/\(YR A k≠[]->∃j:Nat,k=j/\j<A.tb.length) ∧
 ∀j y,ib (Z1 A k) j y↔ib A j y/\¬(j=k.toNat/\y∈YR A k):=by
 by_cases h0:QF A k=0
 ·have r:A.ck k=true:=by
   unfold QF at h0;split at h0
   ·assumption
   ·cases h0
  obtain⟨j,rfl,w⟩:=HE.1 r;obtain⟨c,J,t,E,m⟩:=h.cl w;have hne:t.bs≠[]:=by
   intro e;unfold QF at h0;rw[r,zC rfl,dH,m]at h0;simp[e]at h0
  have D:Z1 A (j:Int) = {A with cR:=A.cR.set j t.rem}:=by unfold Z1;rw[zC h0,dH,VE m]
  have C:YR A (j:Int)=t.bs.getLast?.getD []:=by unfold YR;rw[zC h0,dH,m]
  have z:t.bs=t.bs.dropLast++[t.bs.getLast hne]:=(List.dropLast_concat_getLast hne).symm;have H:YR A (j:Int)=t.bs.getLast hne:=by rw[C,List.getLast?_eq_some_getLast hne];rfl
  have d:t.bs.flatten=t.bs.dropLast.flatten++t.bs.getLast hne:=by
   conv=>lhs;rw[z]
   simp
  have s:=h.qD j t m;rw[d]at s;have b:=nf.1 s;have g:t.rem.bs=t.bs.dropLast:=rfl;rw[D,H];refine⟨⟨h.kc (by rw[g];exact b.1) (λx a=>(VM E).2 (h.mw j c J t E m x (by rw[d];exact kM _ a))) λG u F B=>h.oR j G t u m F ((List.dropLast_sublist _).subset B),Kp.aG rfl rfl rfl rfl,rfl⟩,λ_ _=>Iff.rfl,λx a=>?_,b.2.1,λ_=>⟨j,rfl,w⟩,λi y=>?_⟩
  ·rw[dH,Gm m,d];exact oF _ a
  ·rw[Ak (by rw[h.lt];exact w),g,dH];by_cases hij:i=j
   ·subst hij;rw[Gm m,d,zM];constructor
    ·rintro(⟨_,a⟩|⟨a,_⟩)
     ·exact⟨.inl a,λp=>b.2.2 y a y p.2 rfl⟩
     ·exact(a rfl).elim
    ·rintro⟨a|a,p⟩
     ·exact .inl ⟨rfl,a⟩
     ·exact(p ⟨rfl,a⟩).elim
   ·constructor
    ·rintro(⟨a,_⟩|⟨_,a⟩)
     ·exact(hij a).elim
     ·exact⟨a,λp=>hij p.1⟩
    ·rintro⟨a,_⟩;exact .inr ⟨hij,a⟩
 ·have D:Z1 A k=A:=by unfold Z1;rw[zB h0]
  have C:YR A k=[]:=by unfold YR;rw[zB h0]
  rw[D,C];exact⟨⟨h,Kp.refl A,rfl⟩,λ_ _=>Iff.rfl,by simp,uz,by simp,by simp⟩
theorem Pj (h:GA A)(k:Int){xs:List Int}(hn:xs.Nodup)(hd:∀x∈xs,¬ib A k.toNat x):Ob A (KG A k xs)/\(∀j y,fR (KG A k xs) j y↔fR A j y) ∧
 (VG A k xs=true->(∃j:Nat,k=j/\j<A.tb.length)/\(∀x∈xs,fR A k.toNat x)/\∀j y,ib (KG A k xs) j y↔ib A j y\/(j=k.toNat/\y∈xs))/\(VG A k xs=false->KG A k xs=A):=by
 by_cases h0:VG A k xs=true
 ·have B:HT A k xs=0:=by
   unfold VG at h0;simp only[zF,zV]at h0;exact h0.1
  have w:A.ck k=true:=by
   unfold HT at B;split at B
   ·assumption
   ·cases B
  obtain⟨j,rfl,E⟩:=HE.1 w;obtain⟨c,F,t,s,u⟩:=h.cl E;have g:=B;unfold HT at g;rw[w,zC rfl,dH,s.1,s.2]at g;simp only at g;have p:xs.length=c.batch:=by
   apply Classical.byContradiction;intro d;rw[zB d]at g;cases g
  rw[zC p]at g;have z:∀x∈xs,fR A j x:=by
   intro x d;split at g
   ·rename_i C;rw[kx]at C;rw[VM s];simpa[Tk]using C x d
   ·cases g
  have D:KG A (j:Int) xs = {A with cR:=A.cR.set j {t with bs:=t.bs++[xs]}}:=by unfold KG;rw[zC h0,dH,VE u]
  have r:(t.bs++[xs]).flatten=t.bs.flatten++xs:=by simp
  rw[D];refine⟨⟨h.kc ?_ ?_ ?_,Kp.aG rfl rfl rfl rfl,rfl⟩,λ_ _=>Iff.rfl,λ_=>⟨⟨j,rfl,E⟩,by rw[dH];exact z,λi y=>?_⟩,λG=>by rw[G]at h0;cases h0⟩
  ·show(t.bs++[xs]).flatten.Nodup;rw[r,nf];exact⟨h.qD j t u,hn,λa C b H e=>hd b H (by subst e;rw[dH,Gm u];exact C)⟩
  ·intro x d;have d:x∈(t.bs++[xs]).flatten:=d;rw[r,zM]at d;rcases d with d|d
   ·exact(VM s).2 (h.mw j c F t s u x d)
   ·exact z x d
  ·intro c' hc' ys m;have m:ys∈t.bs++[xs]:=m;rcases zM.1 m with m|m
   ·exact h.oR j c' t hc' u ys m
   ·simp only[zN]at m;rw[s.1]at hc';cases hc';rw[m];exact p
  ·rw[Ak (by rw[h.lt];exact E),dH];show(i=j/\y∈(t.bs++[xs]).flatten)\/_↔_;rw[r,zM];by_cases hij:i=j
   ·subst hij;rw[Gm u];constructor
    ·rintro(⟨_,d|d⟩|⟨d,_⟩)
     ·exact .inl d
     ·exact .inr ⟨rfl,d⟩
     ·exact(d rfl).elim
    ·rintro(d|⟨_,d⟩)
     ·exact .inl ⟨rfl,.inl d⟩
     ·exact .inl ⟨rfl,.inr d⟩
   ·constructor
    ·rintro(⟨d,_⟩|⟨_,d⟩)
     ·exact(hij d).elim
     ·exact .inl d
    ·rintro(d|⟨d,_⟩)
     ·exact .inr ⟨hij,d⟩
     ·exact(hij d).elim
 ·have D:KG A k xs=A:=by unfold KG;rw[zB h0]
  rw[D];exact⟨⟨h,Kp.refl A,rfl⟩,λ_ _=>Iff.rfl,λd=>(h0 d).elim,λ_=>rfl⟩
end Go.Ar
namespace Go.Ar
open Go.Bu (ZH Ki ZD qH VP dG take KU Vq Bounded full can YU U9 Z2 Kq Qd WW Ks QJ Up HA ly)
variable {A:AR}{sp:Sp}{k:Nat}{c:cA}{ss:List cH}
structure Ow (A:AR) (sp:Sp):Prop where
 l:sp.st.length=A.n
 own:∀p,A.f p≠0->gf sp.st p≠0
 cl:∀p,A.f p=3->gf sp.st p=1
 le:∀p,gf sp.st p<=2
structure St (A B:AR) (sp sp':Sp):Prop where
 ga:GA B
 ow:Ow B sp'
 n:B.n=A.n
 tb:B.tb=A.tb
 room:B.room=A.room
 same:∀p,A.f p=0->B.f p=0->gf sp'.st p=gf sp.st p
 gone:∀p,A.f p≠0->B.f p=0->gf sp'.st p=0
 new:∀p,A.f p=0->B.f p≠0->gf sp.st p=0/\16<=p
theorem St.refl (h:GA A)(hw:Ow A sp):St A A sp sp:=⟨h,hw,rfl,rfl,rfl,λ_ _ _=>rfl,λp a b=>(a b).elim,λp a b=>(b a).elim⟩
theorem Ow.len {B C:AR}{sp sp':Sp}(h:Ow B sp)(k:Ow C sp')(e:C.n=B.n):sp'.st.length=sp.st.length:=by rw[h.l,k.l,e]
theorem St.trans {B C:AR}{sp' sp'':Sp}(h:St A B sp sp')(k:St B C sp' sp''):St A C sp sp'':=by
 refine⟨k.ga,k.ow,k.n.trans h.n,k.tb.trans h.tb,k.room.trans h.room,λp a b=>?_,λp a b=>?_,λp a b=>?_⟩
 ·by_cases hB:B.f p=0
  ·rw[k.same p hB b,h.same p a hB]
  ·rw[k.gone p hB b,(h.new p a hB).1]
 ·by_cases hB:B.f p=0
  ·rw[k.same p hB b,h.gone p a hB]
  ·exact k.gone p hB b
 ·by_cases hB:B.f p=0
  ·have:=k.new p hB b;rw[h.same p a hB]at this;exact this
  ·exact h.new p a hB
theorem Ow.kp {B:AR}(hw:Ow A sp)(h:Kp A B):Ow B sp:=⟨hw.l.trans h.n.symm,λp a=>hw.own p λe=>a ((h.z p).2 e),λp a=>hw.cl p (h.t p a),hw.le⟩
theorem St.kp {B:AR}(hg:GA B)(hw:Ow A sp)(h:Kp A B):St A B sp sp:=
 ⟨hg,hw.kp h,h.n,h.tb,h.room,λ_ _ _=>rfl,λp a b=>(a ((h.z p).1 b)).elim,λp a b=>(b ((h.z p).2 a)).elim⟩
theorem Ob.st {B:AR}(o:Ob A B)(hw:Ow A sp):St A B sp sp:=St.kp o.ga hw o.kp
theorem GA.grown (h:GA A){B:AR}{sp':Sp}{s size:Nat}(g:Grown A B sp sp' s size):GA B:=by
 have e:∀{j d tt},Cl B j d tt↔Cl A j d tt:=λ{j d tt}=>by unfold Cl;rw[g.tb,g.cG]
 exact⟨g.pg,by rw[g.tb];exact h.tb,by rw[g.cG,g.tb];exact h.lc,by rw[g.cR,g.tb];exact h.lt,λj d tt a=>h.cG j d tt (e.1 a),λj d tt a=>h.one j d tt (e.1 a),λj d tt a p=>by rw[g.ow];exact h.ow j d tt (e.1 a) p,
  λp=>by rw[g.ow,g.runs];exact h.kj p,λp=>by rw[g.ow,g.tb];exact h.sZ p,by rw[g.runs];exact h.gZ,by rw[g.runs];exact h.kK,by rw[g.cR];exact h.qD,λj d tt t a b=>h.mw j d tt t (e.1 a) (by rw[←g.cR];exact b),by rw[g.tb,g.cR];exact h.oR⟩
theorem Grown.st (h:GA A)(hw:Ow A sp){B:AR}{sp':Sp}{s size:Nat}(g:Grown A B sp sp' s size):St A B sp sp':=by
 have b:∀p,B.f p≠A.f p->s<=p/\p<s+size:=λp a=>by
  apply Classical.byContradiction;intro hn;exact a (g.o p hn).1
 refine⟨h.grown g,⟨g.l.trans (hw.l.trans g.n.symm),λp a=>?_,λp a=>?_,λp=>?_⟩,g.n,g.tb,g.room,λp j d=>?_,λp j d=>?_,λp j d=>?_⟩
 ·by_cases hi:s<=p/\p<s+size
  ·rw[(g.i p hi.1 hi.2).2];omega
  ·rw[(g.o p hi).2];rw[(g.o p hi).1]at a;exact hw.own p a
 ·by_cases hi:s<=p/\p<s+size
  ·rw[(g.i p hi.1 hi.2).2]
  ·rw[(g.o p hi).2];rw[(g.o p hi).1]at a;exact hw.cl p a
 ·by_cases hi:s<=p/\p<s+size
  ·rw[(g.i p hi.1 hi.2).2];omega
  ·rw[(g.o p hi).2];exact hw.le p
 ·refine(g.o p λhi=>?_).2;rw[(g.i p hi.1 hi.2).1]at d;omega
 ·have:=b p O;rw[(g.i p this.1 this.2).1]at d;omega
 ·have:=b p O;exact⟨g.un p this.1 this.2,by have:=g.s1;omega⟩
theorem PW {n:Nat}{S:Nat->Bool}(hb:Bounded S n)(hn:n<=1024){j q m a:Nat}(hf:full S j q=true)(hm:m<=2^j)(ha:a<=2^j):ZD n S m a≠none:=by
 intro h0;have r:S (q*2^j)=true:=YU.1 hf _ (DN _ (k5 j));obtain⟨i,hi⟩:=U9 hb r;have g:j<=i:=by
  apply Classical.byContradiction;intro hlt;exact Kq hi hf rfl (DN _ (k5 j)) O
 have s:=Qd hb (Z2.1 hi).1;have d:i<11:=by
  apply Classical.byContradiction;intro hge;have:2^11<=2^i:=qk O O;omega
 have p:2^j<=2^i:=qk O g;have:=HA h0 i d O O;have b:=(Ks hb (k:=i)).2 ⟨_,rfl,hi⟩;rw[this]at b;simp at b
theorem DA (m:Nat):KB m=16\/KB m=32\/KB m=64:=by
 unfold KB;split
 ·exact .inl rfl
 ·split
  ·exact .inr (.inl rfl)
  ·exact .inr (.inr rfl)
theorem Wi5 {m:Nat}(h:m<=64):m<=KB m:=by
 unfold KB;split
 ·omega
 ·split<;>omega
theorem EY (h:GA A)(hw:Ow A sp){m a no:Nat}(h1:1<=m)(h2:m<=64)(ha:1<=a/\a<=16) :
 (dC A sp m a no=(none,A,sp)/\ZD A.n A.S m a=none/\dB sp (KB (max m a))=none) ∨
 ∃x A1 sp1,dC A sp m a no=(some x,dT A1 x m no,sp1)/\ZD A1.n A1.S m a=some x/\(A1=A/\sp1=sp\/ZD A.n A.S m a=none/\∃s,dB sp (KB (max m a))=some s/\Grown A A1 sp sp1 s (KB (max m a))):=by
 cases ht:ZD A.n A.S m a with
 | some x=>exact .inr ⟨x,A,sp,by unfold dC;rw[ht],ht,.inl ⟨rfl,rfl⟩⟩
 | none=>
  cases hg:Hk A sp (KB (max m a))with
  | none=>
   refine .inl ⟨by unfold dC;rw[ht,hg],rfl,?_⟩;unfold Hk at hg;split at hg
   ·assumption
   ·cases hg
  | some r=>
   obtain⟨A1,sp1⟩:=r;obtain⟨s,u,g⟩:=OB h.pg hw.l (λp b=>Classical.byContradiction λy=>hw.own p y b) (DA _) hg;have d:ZD A1.n A1.S m a≠none:=by
    have B:=Wi5 (m:=max m a) O;obtain⟨_,_,⟨i,hi⟩,_⟩:=Hq (by have:=DA (max m a);omega) u;have key:∃j,KB (max m a)=2^j:=by
     rcases DA (max m a)with e|e|e
     ·exact⟨4,e⟩
     ·exact⟨5,e⟩
     ·exact⟨6,e⟩
    obtain⟨j,z⟩:=key;refine PW g.pg.jD g.pg.n2 (j:=j) (q:=i) (YU.2 λp b=>?_) O O;rw[g.pg.fr];rw[QJ,←z,←hi]at b;rw[(g.i p b.1 b.2).1];omega
   obtain⟨x,w⟩:=Option.ne_none_iff_exists'.1 d;exact .inr ⟨x,A1,sp1,by unfold dC;rw[ht,hg];simp only;rw[w],w,.inr ⟨rfl,s,u,g⟩⟩
theorem EB (h:PG A){m a x:Nat}(hx:ZD A.n A.S m a=some x):∀p,x<=p->p<x+m->A.S p=true:=λp b d=>(ly h.jD hx).2 p b d
theorem Wkc (h:PG A){m a x:Nat}(h1:1<=m)(h4:m<=4)(hx:ZD A.n A.S m a=some x):x/16=(x+m-1)/16:=by
 obtain⟨j,_,b,_,d,_⟩:=Up hx;obtain⟨q,rfl,g⟩:=(Ks h.jD).1 (List.mem_of_head? d)
 match j,b with
 | 0,b=>
  have:m=1:=by omega
  subst this;rfl
 | 1,b=>
  have:m<=2:=by omega
  simp only[Nat.pow_one]at *;omega
 | j+2,b=>
  have e:2^(j+2)=4*2^j:=by rw[Nat.pow_add];omega
  rw[e,←xY,Nat.mul_comm q 4,xY];generalize q*2^j=z;omega
theorem Ld (h:PG A){a m no:Nat}(h1:1<=m)(hn:no≠0)(hS:∀p,a<=p->p<a+m->A.S p=true):Kp A (dT A a m no):=by
 obtain⟨o,hi,g,d⟩:=Dp h h1 hn hS;refine⟨rfl,rfl,rfl,d,λp b=>?_⟩;by_cases hin:a<=p/\p<a+m
 ·rw[(hi p hin.1 hin.2).1]at b;omega
 ·rw[o.f p hin]at b;exact b
theorem GA.se (h:GA A)(hk:Cl A k c ss){x:Nat}(hS:∀p,x<=p->p<x+c.aG->A.S p=true)(h1:x/16=(x+c.aG-1)/16) :
 GA {dT A x c.aG (k+1)with cG:=(dT A x c.aG (k+1)).cG.set k (iv c ss x)}/\(∀s∈ss,s.st+c.aG<=x\/x+c.aG<=s.st):=by
 have u:=h.cG k c ss hk;have m:=u.pg;have B:=hk.lt;have E:=h.tb;obtain⟨o,hi,pg,F⟩:=Dp h.pg m (no:=k+1) O hS;have r:∀p,x<=p->p<x+c.aG->A.ow p=0:=λp C z=>by
  have D:=(h.pg.fr p).1 (hS p C z);apply Classical.byContradiction;intro hne;have:=(h.pg.us p).2 hne;omega
 have hd:∀s∈ss,s.st+c.aG<=x\/x+c.aG<=s.st:=λs b=>by
  apply Classical.byContradiction;intro hn;have D:=r (max x s.st) O O;have:=(h.used hk b (p:=max x s.st) O O).2;omega
 refine⟨?_,hd⟩;have g:Cl (dT A x c.aG (k+1)) k c ss:=hk;refine⟨pg.same rfl rfl rfl rfl,h.tb,by show(A.cG.set k _).length=_;simp[h.lc];rfl,h.lt,λj d i a=>?_,λj d i a s b=>?_,λj d i a p=>?_,λp=>?_,λp=>?_,h.gZ,h.kK,h.qD,λj d i t a w=>?_,h.oR⟩
 ·rcases UR g a with⟨rfl,rfl,rfl⟩|⟨hne,a⟩
  ·exact JL u hd
  ·exact h.cG j d i a
 ·rcases UR g a with⟨rfl,rfl,rfl⟩|⟨hne,a⟩
  ·rcases VW.1 b with rfl|b
   ·exact h1
   ·exact h.one _ _ _ hk s b
  ·exact h.one j d i a s b
 ·show(dT A x c.aG (k+1)).ow p=j+1↔_;by_cases hp:x<=p/\p<x+c.aG
  ·rw[(hi p hp.1 hp.2).2];rcases UR g a with⟨rfl,rfl,rfl⟩|⟨hne,a⟩
   ·exact⟨λ_=>⟨_,VW.2 (.inl rfl),hp.1,hp.2⟩,λ_=>rfl⟩
   ·rw[←h.ow j d i a p,r p hp.1 hp.2];omega
  ·rw[o.ow p hp];rcases UR g a with⟨rfl,rfl,rfl⟩|⟨hne,a⟩
   ·rw[h.ow _ _ _ hk p];constructor
    ·rintro⟨s,b,h3⟩;exact⟨s,VW.2 (.inr b),h3⟩
    ·rintro⟨s,b,h3⟩;rcases VW.1 b with rfl|b
     ·exact(hp h3).elim
     ·exact⟨s,b,h3⟩
   ·exact h.ow j d i a p
 ·show(dT A x c.aG (k+1)).ow p=41↔mM A.runs p;by_cases hp:x<=p/\p<x+c.aG
  ·rw[(hi p hp.1 hp.2).2,←h.kj,r p hp.1 hp.2];omega
  ·rw[o.ow p hp];exact h.kj p
 ·show(dT A x c.aG (k+1)).ow p=41\/(dT A x c.aG (k+1)).ow p<=A.tb.length;by_cases hp:x<=p/\p<x+c.aG
  ·rw[(hi p hp.1 hp.2).2];omega
  ·rw[o.ow p hp];exact h.sZ p
 ·rcases UR g a with⟨rfl,rfl,rfl⟩|⟨hne,a⟩
  ·intro y hy;exact(E7 u hd).2 (h.mw _ _ _ t hk w y hy)
  ·exact h.mw j d i t a w
theorem GA.tP (h:GA A){x m:Nat}(hm:1<=m)(hS:∀p,x<=p->p<x+m->A.S p=true):GA {dT A x m 41 with runs:=A.runs++[(x,m)]}:=by
 have z:=h.tb;obtain⟨o,hi,pg,B⟩:=Dp h.pg hm (no:=41) O hS;have i:∀p,x<=p->p<x+m->A.ow p=0:=λp u w=>by
  have y:=(h.pg.fr p).1 (hS p u w);apply Classical.byContradiction;intro hne;have:=(h.pg.us p).2 hne;omega
 refine⟨pg.same rfl rfl rfl rfl,h.tb,h.lc,h.lt,h.cG,h.one,λj d tt b p=>?_,λp=>?_,λp=>?_,λr a=>?_,?_,h.qD,h.mw,h.oR⟩
 ·have b:Cl A j d tt:=b;have:=b.lt;show(dT A x m 41).ow p=j+1↔_;by_cases hp:x<=p/\p<x+m
  ·rw[(hi p hp.1 hp.2).2,←h.ow j d tt b p,i p hp.1 hp.2];omega
  ·rw[o.ow p hp];exact h.ow j d tt b p
 ·show(dT A x m 41).ow p=41↔mM (A.runs++[(x,m)]) p;by_cases hp:x<=p/\p<x+m
  ·rw[(hi p hp.1 hp.2).2];exact⟨λ_=>⟨(x,m),by simp,hp⟩,λ_=>rfl⟩
  ·rw[o.ow p hp,h.kj];constructor
   ·rintro⟨r,a,h3⟩;exact⟨r,by simp[a],h3⟩
   ·rintro⟨r,a,h3⟩;rcases zM.1 a with a|a
    ·exact⟨r,a,h3⟩
    ·simp only[zN]at a;subst a;exact(hp h3).elim
 ·show(dT A x m 41).ow p=41\/(dT A x m 41).ow p<=A.tb.length;by_cases hp:x<=p/\p<x+m
  ·rw[(hi p hp.1 hp.2).2];omega
  ·rw[o.ow p hp];exact h.sZ p
 ·rcases zM.1 a with a|a
  ·exact h.gZ r a
  ·simp only[zN]at a;subst a;exact hm
 ·refine qP.2 ⟨h.kK,by simp,λr a s g=>?_⟩;simp only[zN]at g;subst g;apply Classical.byContradiction;intro hn;simp only at hn;have:=h.gZ r a;have y:=i (max x r.1) O O;have:=(h.jE a (p:=max x r.1) O O).2;omega
theorem Ω {l:List (Nat×Nat)}{x m:Nat}(h:∀r∈l,r.1≠x):cC.mset2 l x m=l++[(x,m)]:=by
 unfold cC.mset2;rw[zB];simp only[zy,zU,not_exists,not_and];exact h
theorem Lh (h:GA A)(hw:Ow A sp)(k:Int) :
 ((cQ A sp k=(A,sp))/\Vu A sp k≠0/\(A.ck k=true->Vu A sp k=6)) ∨
 ∃(j:Nat) (c:cA) (ss:List cH) (x:Nat) (A1:AR) (sp1:Sp),k=j/\Cl A j c ss/\Cl A1 j c ss/\Vu A sp k=0/\cQ A sp k=({dT A1 x c.aG (j+1)with cG:=(dT A1 x c.aG (j+1)).cG.set j (iv c ss x)},sp1) ∧
  St A A1 sp sp1/\A1.runs=A.runs/\A1.cR=A.cR/\A1.cG=A.cG/\ZD A1.n A1.S c.aG 1=some x/\(∀s∈ss,s.st+c.aG<=x\/x+c.aG<=s.st)/\St A (cQ A sp k).1 sp (cQ A sp k).2:=by
 by_cases hck:A.ck k=true
 ·obtain⟨j,rfl,G⟩:=HE.1 hck;obtain⟨c,ss,t,b,J⟩:=h.cl G;have D:=h.cG j c ss b;have y:=D.ok;unfold cA.ok at y;have E:=b.lt;rcases EY h hw (m:=c.aG) (a:=1) (no:=j+1) O O O with⟨hg,_⟩|⟨x,A1,sp1,hg,htk,hor⟩
  ·left;have z:Vu A sp (j:Int)=6:=by unfold Vu;rw[hck,zC rfl,dH,b.1,b.2];simp only;rw[hg]
   have F:cQ A sp (j:Int)=(A,sp):=by unfold cQ;rw[hck,zC rfl,dH,b.1,b.2];simp only;rw[hg]
   rw[F,z];exact⟨rfl,by simp,λ_=>rfl⟩
  ·right;have z:Vu A sp (j:Int)=oe c ss x:=by unfold Vu;rw[hck,zC rfl,dH,b.1,b.2];simp only;rw[hg]
   have w:GA A1:=by
    rcases hor with⟨rfl,rfl⟩|⟨_,s,_,g⟩
    ·exact h
    ·exact h.grown g
   have d:St A A1 sp sp1:=by
    rcases hor with⟨rfl,rfl⟩|⟨_,s,_,g⟩
    ·exact St.refl h hw
    ·exact g.st h hw
   have i:A1.runs=A.runs/\A1.cR=A.cR/\A1.cG=A.cG:=by
    rcases hor with⟨rfl,rfl⟩|⟨_,s,_,g⟩
    ·exact⟨rfl,rfl,rfl⟩
    ·exact⟨g.runs,g.cR,g.cG⟩
   have p:Cl A1 j c ss:=⟨by rw[d.tb];exact b.1,by rw[i.2.2];exact b.2⟩;have B:=EB w.pg htk;obtain⟨H,hd⟩:=w.se p B (Wkc w.pg O O htk);have C:=Nm hd;have u:cQ A sp (j:Int)=({dT A1 x c.aG (j+1)with cG:=(dT A1 x c.aG (j+1)).cG.set j (iv c ss x)},sp1):=by
    unfold cQ;rw[hck,zC rfl,dH,b.1,b.2];simp only;rw[hg];simp only;rw[zC C]
   refine⟨j,c,ss,x,A1,sp1,rfl,b,p,by rw[z];exact C,u,d,i.1,i.2.1,i.2.2,htk,hd,?_⟩;rw[u];have kp:=Ld w.pg (no:=j+1) O O B;exact d.trans (St.kp H d.ow (kp.trans (Kp.aG rfl rfl rfl rfl)))
 ·left;have r:A.ck k=false:=by simpa using hck
  unfold cQ Vu;rw[r];exact⟨rfl,by simp,λh=>by cases h⟩
theorem M4 (h:GA A)(hw:Ow A sp)(k:Int):St A (cQ A sp k).1 sp (cQ A sp k).2/\(cQ A sp k).1.runs=A.runs/\(cQ A sp k).1.cR=A.cR/\(∀j y,fR (cQ A sp k).1 j y↔fR A j y)/\(Vu A sp k≠0->cQ A sp k=(A,sp)):=by
 rcases Lh h hw k with⟨e,_⟩|⟨j,c,ss,x,A1,sp1,rfl,hk,hk1,hE,e,hst,r1,r2,r3,_,hd,hS⟩
 ·rw[e];exact⟨St.refl h hw,rfl,rfl,λ_ _=>Iff.rfl,λ_=>rfl⟩
 ·refine⟨hS,by rw[e];exact r1,by rw[e];exact r2,λi y=>?_,λd=>(d hE).elim⟩;rw[e];have b:Cl (dT A1 x c.aG (j+1)) j c ss:=hk1;rw[AY b,E7 (h.cG j c ss hk) hd];have e2:fR (dT A1 x c.aG (j+1)) i y↔fR A i y:=by
   have:(dT A1 x c.aG (j+1)).tb=A.tb/\(dT A1 x c.aG (j+1)).cG=A.cG:=⟨hst.tb,r3⟩;unfold fR Cl;rw[this.1,this.2]
  rw[e2];by_cases hij:i=j
  ·subst hij;rw[VM hk];exact⟨λa=>by rcases a with⟨_,a⟩|⟨a,_⟩;exact a;exact(a rfl).elim,λa=>.inl ⟨rfl,a⟩⟩
  ·exact⟨λa=>by rcases a with⟨a,_⟩|⟨_,a⟩;exact(hij a).elim;exact a,λa=>.inr ⟨hij,a⟩⟩
theorem RC {m a:Int}(h:KO m a=true):∃x y:Nat,m=x/\a=y/\1<=x/\x<=64/\(y=1\/y=2\/y=4\/y=8\/y=16):=by
 unfold KO at h;simp only[zF,zV,nB,zU]at h;exact⟨m.toNat,a.toNat,O,O,O,O,O⟩
theorem Mo (h:GA A)(hw:Ow A sp)(m a:Int) :
 (cC A sp m a=(A,sp)/\Q6 A sp m a≠0/\(KO m a=true->Q6 A sp m a=6/\ZD A.n A.S m.toNat a.toNat=none/\dB sp (KB (max m.toNat a.toNat))=none)) ∨
 ∃(x:Nat) (A1:AR) (sp1:Sp),KO m a=true/\Q6 A sp m a=0/\QE A sp m a=x/\cC A sp m a=({dT A1 x m.toNat 41 with runs:=A.runs++[(x,m.toNat)]},sp1) ∧
  ZD A1.n A1.S m.toNat a.toNat=some x/\(A1=A/\sp1=sp\/ZD A.n A.S m.toNat a.toNat=none/\∃s,dB sp (KB (max m.toNat a.toNat))=some s/\Grown A A1 sp sp1 s (KB (max m.toNat a.toNat))) ∧
  St A (cC A sp m a).1 sp (cC A sp m a).2/\(cC A sp m a).1.cR=A.cR/\(∀j y,fR (cC A sp m a).1 j y↔fR A j y):=by
 by_cases hp:KO m a=true
 ·obtain⟨b,w,rfl,rfl,L,N,Q⟩:=RC hp;have F:Q6 A sp (b:Int) (w:Int)=if(dC A sp b w 41).1.isSome then 0 else 6:=by unfold Q6;rw[zC hp,dH,dH]
  have J:QE A sp (b:Int) (w:Int)=(dC A sp b w 41).1.getD 0:=by unfold QE;rw[zC hp,dH,dH]
  rcases EY h hw (m:=b) (a:=w) (no:=41) L N O with⟨hg,hn1,hn2⟩|⟨x,A1,sp1,hg,htk,hor⟩
  ·left;have M:cC A sp (b:Int) (w:Int)=(A,sp):=by unfold cC;rw[zC hp,dH,dH,hg]
   rw[M,F,hg,dH,dH];exact⟨rfl,by simp,λ_=>⟨rfl,hn1,hn2⟩⟩
  ·right;have z:GA A1:=by
    rcases hor with⟨rfl,rfl⟩|⟨_,s,_,g⟩
    ·exact h
    ·exact h.grown g
   have u:St A A1 sp sp1:=by
    rcases hor with⟨rfl,rfl⟩|⟨_,s,_,g⟩
    ·exact St.refl h hw
    ·exact g.st h hw
   have d:A1.runs=A.runs/\A1.cR=A.cR/\A1.cG=A.cG:=by
    rcases hor with⟨rfl,rfl⟩|⟨_,s,_,g⟩
    ·exact⟨rfl,rfl,rfl⟩
    ·exact⟨g.runs,g.cR,g.cG⟩
   have D:=EB z.pg htk;have C:∀r∈A.runs,r.1≠x:=λr H e=>by
    have B:r∈A1.runs:=by rw[d.1];exact H
    have:=z.gZ r B;have P:=(z.jE B (p:=x) O O).1;have R:=(z.pg.fr x).1 (D x O O);omega
   have i:cC A sp (b:Int) (w:Int)=({dT A1 x b 41 with runs:=A.runs++[(x,b)]},sp1):=by
    unfold cC;rw[zC hp,dH,dH,hg];show({dT A1 x b 41 with runs:=cC.mset2 A1.runs x b},sp1)=_;rw[d.1,Ω C]
   have G:=z.tP O D;rw[d.1]at G;have kp:=Ld z.pg (no:=41) O O D;refine⟨x,A1,sp1,hp,by rw[F,hg];rfl,by rw[J,hg];rfl,by rw[dH];exact i,by rw[dH,dH];exact htk,by rw[dH,dH];exact hor,?_,by rw[i];exact d.2.1,λj y=>?_⟩
   ·rw[i];exact u.trans (St.kp G u.ow (kp.trans (Kp.aG rfl rfl rfl rfl)))
   ·rw[i];have e1:({dT A1 x b 41 with runs:=A.runs++[(x,b)]}:AR).tb=A.tb:=u.tb;have e2:({dT A1 x b 41 with runs:=A.runs++[(x,b)]}:AR).cG=A.cG:=d.2.2;unfold fR Cl;rw[e1,e2]
 ·left;have E:KO m a=false:=by simpa using hp
  unfold cC Q6;rw[E];exact⟨rfl,by simp,λK=>by cases K⟩
theorem OD {x:Int}{r:Nat×Nat}(h:qC A x=some r):r∈A.runs/\x=(r.1:Int):=by
 unfold qC at h;exact⟨uu h,by have:=uR h;simpa using Eq.symm (by simpa using this)⟩
theorem Rj (h:GA A)(x:Int):(Kp A (Kc A x)/\GA (Kc A x))/\(Kc A x).cR=A.cR/\(∀j y,fR (Kc A x) j y↔fR A j y)/\(VA A x≠0->Kc A x=A) ∧
 (VA A x=0->∃r∈A.runs,x=(r.1:Int)/\(Kc A x).runs=A.runs.filter λq=>!(q==r)):=by
 cases hr:qC A x with
 | none=>
  have e:Kc A x=A:=by unfold Kc;rw[hr]
  have D:VA A x=8:=by unfold VA;rw[hr];rfl
  rw[e,D];exact⟨⟨Kp.refl A,h⟩,rfl,λ_ _=>Iff.rfl,λ_=>rfl,λi=>by cases i⟩
 | some r=>
  obtain⟨b,i⟩:=OD hr;have u:=h.gZ r b;have s:A.runs.filter (λq=>!((q.1:Int)==x))=A.runs.filter λq=>!(q==r):=by
   apply wA;intro q g;have:((q.1:Int)==x)=(q==r):=by
    rw[kW];simp only[zU];constructor
    ·intro e;have G:=h.gZ q g;exact h.gT g b (x:=q.1) O O O O
    ·rintro rfl;exact i.symm
   rw[this]
  have e:Kc A x=Ul {A with runs:=A.runs.filter λq=>!(q==r)} r:=by unfold Kc;rw[hr];simp only;rw[s]
  have D:VA A x=0:=by unfold VA;rw[hr];rfl
  obtain⟨a,m⟩:=r;obtain⟨o,hi,pg,H⟩:=JJ (A:={A with runs:=A.runs.filter λq=>!(q==(a,m))}) (h.pg.same rfl rfl rfl rfl) u (λp E B=>(h.jE b E B).1);have own:∀p,a<=p->p<a+m->A.ow p=41:=λp E B=>(h.jE b E B).2;have F:=h.tb;rw[e,D];refine⟨⟨⟨rfl,rfl,rfl,H,λp C=>?_⟩,?_⟩,rfl,λ_ _=>Iff.rfl,λi=>(i rfl).elim,λ_=>⟨_,b,i,rfl⟩⟩
  ·by_cases hin:a<=p/\p<a+m
   ·rw[(hi p hin.1 hin.2).1]at C;omega
   ·rw[o.f p hin]at C;exact C
  ·refine⟨pg,h.tb,h.lc,h.lt,h.cG,h.one,λj d tt w p=>?_,λp=>?_,λp=>?_,λq g=>h.gZ q (zJ.1 g).1,h.kK.filter _,h.qD,h.mw,h.oR⟩
   ·have w:Cl A j d tt:=w;have:=w.lt;by_cases hin:a<=p/\p<a+m
    ·rw[(hi p hin.1 hin.2).2,←h.ow j d tt w p,own p hin.1 hin.2];omega
    ·rw[o.ow p hin];exact h.ow j d tt w p
   ·show _↔mM (A.runs.filter λq=>!(q==(a,m))) p;by_cases hin:a<=p/\p<a+m
    ·rw[(hi p hin.1 hin.2).2];constructor
     ·intro i;omega
     ·rintro⟨q,g,q1,q2⟩;have z:=zJ.1 g;have:=h.gT z.1 b q1 q2 hin.1 hin.2;subst this;simp at z
    ·rw[o.ow p hin];show A.ow p=41↔_;rw[h.kj];constructor
     ·rintro⟨q,g,q1⟩;refine⟨q,zJ.2 ⟨g,?_⟩,q1⟩;have:q≠(a,m):=by rintro rfl;exact hin q1
      simpa using this
     ·rintro⟨q,g,q1⟩;exact⟨q,(zJ.1 g).1,q1⟩
   ·by_cases hin:a<=p/\p<a+m
    ·rw[(hi p hin.1 hin.2).2];omega
    ·rw[o.ow p hin];exact h.sZ p
theorem BM (k:Nat):∀(outs:List (List Int)) {A:AR},GA A->outs.flatten.Nodup->(∀x∈outs.flatten,fR A k x/\¬ib A k x) →
 Ob A (outs.foldl (λA' xs=>ZZ A' (k:Int) xs) A)/\(outs.foldl (λA' xs=>ZZ A' (k:Int) xs) A).cR=A.cR/\∀j y,fR (outs.foldl (λA' xs=>ZZ A' (k:Int) xs) A) j y↔fR A j y/\¬(j=k/\y∈outs.flatten)
 | [],A,h,_,_=>⟨⟨h,Kp.refl A,rfl⟩,rfl,by simp⟩
 | xs::outs,A,h,hn,ht=>by
  rw[vE]at hn ht;have hn':=nf.1 hn;have m:∀x∈xs,fR A k x/\¬ib A k x:=λx i=>ht x (kM _ i);rw[ru];cases xs with
  | nil=>
   have s:ZZ A (k:Int) []=A\/Kv A (k:Int) []=0:=by
    by_cases w:Kv A (k:Int) []=0
    ·exact .inr w
    ·exact .inl (by unfold ZZ;rw[zB w])
   obtain⟨o,e,t,_⟩:=Ci h (k:=(k:Int)) (xs:=[]) (λ_=>by simp);have u:∀j y,fR (ZZ A (k:Int) []) j y↔fR A j y:=λj y=>by
    rcases s with s|s
    ·rw[s]
    ·rw[t s];simp
   have p:∀j y,ib (ZZ A (k:Int) []) j y↔ib A j y:=λj y=>by unfold ib;rw[e]
   obtain⟨o2,e2,z⟩:=BM k outs o.ga hn'.2.1 λx i=>by rw[u,p];exact ht x (oF _ i)
   exact⟨⟨o2.ga,o.kp.trans o2.kp,o2.runs.trans o.runs⟩,e2.trans e,λj y=>by rw[z,u];simp⟩
  | cons x0 xs=>
   obtain⟨c,C,B,_⟩:=(m x0 aA).1;have w:Kv A (k:Int) (x0::xs)=0:=by
    rw[Gw h B];exact Ez ⟨λx i=>(VM B).1 (m x i).1,hn'.1⟩
   obtain⟨o,e,t,_⟩:=Ci h (k:=(k:Int)) (xs:=x0::xs) (λ_ x i=>by rw[dH];exact(m x i).2);have u:=t w;have p:∀j y,ib (ZZ A (k:Int) (x0::xs)) j y↔ib A j y:=λj y=>by unfold ib;rw[e]
   obtain⟨o2,e2,z⟩:=BM k outs o.ga hn'.2.1 λx i=>by
    rw[u,p];have:=ht x (oF _ i);exact⟨⟨this.1,λg=>hn'.2.2 x g.2 x i rfl⟩,this.2⟩
   refine⟨⟨o2.ga,o.kp.trans o2.kp,o2.runs.trans o.runs⟩,e2.trans e,λj y=>?_⟩;rw[z,u,dH,vE,zM];constructor
   ·rintro⟨⟨a,b⟩,d⟩;refine⟨a,λ⟨r,g⟩=>?_⟩;rcases g with g|g
    ·exact b ⟨r,g⟩
    ·exact d ⟨r,g⟩
   ·rintro⟨a,b⟩;exact⟨⟨a,λ⟨r,g⟩=>b ⟨r,.inl g⟩⟩,λ⟨r,g⟩=>b ⟨r,.inr g⟩⟩
structure ui (A B:AR):Prop where
 ob:Ob A B
 sub:∀j y,ib B j y->ib A j y
 tk:∀j y,fR B j y↔fR A j y/\(ib A j y->ib B j y)
theorem ui.trans {B C:AR}(h:ui A B)(k:ui B C):ui A C:=
 ⟨⟨k.ob.ga,h.ob.kp.trans k.ob.kp,k.ob.runs.trans h.ob.runs⟩,λj y g=>h.sub j y (k.sub j y g),λj y=>by
  rw[k.tk,h.tk];exact⟨λ⟨⟨a,b⟩,d⟩=>⟨a,λe=>d (b e)⟩,λ⟨a,b⟩=>⟨⟨a,λe=>k.sub j y (b e)⟩,λe=>b (h.sub j y e)⟩⟩⟩
theorem SE (h:GA A)(hk:k<A.tb.length):ui A (vj A k):=by
 obtain⟨c,H,t,E,m⟩:=h.cl hk;have p:k<A.cR.length:=by rw[h.lt];exact hk
 have e:vj A k=t.out.foldl (λA' w=>ZZ A' (k:Int) w) {A with cR:=A.cR.set k t.tick}:=by unfold vj;rw[m]
 have B:t.bs=t.out++t.tick.bs:=(ot ((t.low+1)/2) t.bs).symm;have i:t.bs.flatten=t.out.flatten++t.tick.bs.flatten:=by conv=>lhs;rw[B];rw[List.flatten_append]
 have u:=h.qD k t m;rw[i]at u;have g:=nf.1 u;have s:∀x∈t.bs.flatten,fR A k x:=λx d=>(VM E).2 (h.mw k c H t E m x d);have G:GA {A with cR:=A.cR.set k t.tick}:=h.kc g.2.1 (λx d=>s x (by rw[i];exact oF _ d)) λF z w C=>h.oR k F t z m w (t.qc w C);obtain⟨o,e2,D⟩:=BM k t.out G g.1 λx d=>by
  refine⟨s x (by rw[i];exact kM _ d),?_⟩;rw[Ak p];rintro(⟨_,hy⟩|⟨hy,_⟩)
  ·exact g.2.2 x d x hy rfl
  ·exact hy rfl
 rw[←e]at o e2 D;have r:∀j y,ib (vj A k) j y↔(j=k/\y∈t.tick.bs.flatten)\/(j≠k/\ib A j y):=λj y=>by
  rw[←Ak p];unfold ib;rw[e2]
 refine⟨⟨o.ga,(Kp.aG rfl rfl rfl rfl:Kp A {A with cR:=A.cR.set k t.tick}).trans o.kp,o.runs⟩,λj y d=>?_,λj y=>?_⟩
 ·rcases(r j y).1 d with⟨rfl,hy⟩|⟨_,hy⟩
  ·rw[Gm m,i];exact oF _ hy
  ·exact hy
 ·rw[D,r];show fR A j y/\_↔_;by_cases hjk:j=k
  ·subst hjk;rw[Gm m,i,zM];constructor
   ·rintro⟨a,b⟩;refine⟨a,λd=>?_⟩;rcases d with d|d
    ·exact(b ⟨rfl,d⟩).elim
    ·exact .inl ⟨rfl,d⟩
   ·rintro⟨a,b⟩;refine⟨a,λ⟨_,d⟩=>?_⟩;rcases b (.inl d)with⟨_,hy⟩|⟨hy,_⟩
    ·exact g.2.2 y d y hy rfl
    ·exact hy rfl
  ·exact⟨λ⟨a,_⟩=>⟨a,λd=>.inr ⟨hjk,d⟩⟩,λ⟨a,_⟩=>⟨a,λ⟨d,_⟩=>hjk d⟩⟩
theorem Fi (h:GA A):∀m,m<=A.tb.length->ui A ((List.range m).foldl vj A)
 | 0,_=>⟨⟨h,Kp.refl A,rfl⟩,λ_ _=>id,λ_ _=>⟨λa=>⟨a,id⟩,λa=>a.1⟩⟩
 | m+1,hm=>by
  have t:=Fi h m O;rw[qQ,vK,ru,List.foldl_nil];exact t.trans (SE t.ob.ga (by rw[t.ob.kp.tb];omega))
theorem OE (h:GA A):ui A (sP A):=Fi h _ (by rw[h.lt];exact zD _)
end Go.Ar
namespace Go.Ar
open Go.Bu (ZH Ki ZD qH VP dG take KU Vq Bounded)
variable {A:AR}{sp:Sp}{k:Nat}{c:cA}{ss:List cH}
end Go.Ar
namespace Go.Ar
structure Pc where
 k:Nat
 cls:Int
 addr:Nat
 size:Nat
 eT:Bool
 deriving DecidableEq
structure Wd where
 tb:List cA
 sp:Sp
 bZ:List AR
 held:List Pc
structure Act where
 kd:Int
 ar:Int
 cl:Int
 a:Int
 b:Int
 l:List Int
abbrev Key:=Nat×Int×Nat
def Pc.key (p:Pc):Key:=(p.k,p.cls,p.addr)
def l7 (k:Nat)(cls x:Int)(p:Pc):Bool:=p.k==k&&(p.cls==cls&&((p.addr:Int)==x && !p.eT))
def wq (held:List Pc)(k:Nat)(cls x:Int):Option Nat:=held.findIdx? (l7 k cls x)
def jt (held:List Pc)(k:Nat)(cls:Int)(l:List Int):Bool:=l.all (λx=>(wq held k cls x).isSome)&&decide l.Nodup
def lS (k:Nat)(cls:Int)(held:List Pc)(x:Int):List Pc:=match wq held k cls x with
 | some i=>held.take i++held.drop (i+1)
 | none=>held
def yi (held:List Pc)(k:Nat)(cls:Int)(l:List Int):List Pc:=l.foldl (lS k cls) held
def eI (k:Nat)(cls:Int)(l:List Int)(p:Pc):Bool:=p.k==k&&(p.cls==cls&&l.contains (p.addr:Int))
def GH (held:List Pc)(k:Nat)(cls:Int)(l:List Int)(m:Bool):List Pc:=held.map λp=>if eI k cls l p then{p with eT:=m}else p
def Ik (held:List Pc)(x:Int):Bool:=held.any λp=>decide ((p.addr:Int)<=x)&&decide (x-(p.addr:Int)<(p.size:Int))
def yD (us:List AR)(held:List Pc):List Pc:=held.filter λp=>!p.eT||(match us[p.k]? with
 | some A=>yw A (p.addr:Int)
 | none=>false)
def pz (tb:List cA)(k:Int):Nat:=((tb[k.toNat]?).map (·.size)).getD 0
def Wd.put (W:Wd)(k:Nat)(A:AR)(sp:Sp)(held:List Pc):Wd:={W with sp:=sp,bZ:=W.bZ.set k A,held:=held}
def Hd (A:AR)(p:Pc):Prop:=(p.cls = -1/\p.eT=false/\∃r∈A.runs,p.addr=r.1*256/\p.size=r.2*256) ∨
 ∃(j:Nat) (c:cA),p.cls=j/\A.tb[j]?=some c/\p.size=c.size/\fR A j (p.addr:Int)/\(p.eT=true↔ib A j (p.addr:Int))
structure WI (W:Wd):Prop where
 ga:∀(k:Nat) (A:AR),W.bZ[k]?=some A->GA A
 ow:∀(k:Nat) (A:AR),W.bZ[k]?=some A->Ow A W.sp
 tb:∀(k:Nat) (A:AR),W.bZ[k]?=some A->A.tb=W.tb
 low:∀(k:Nat) (A:AR),W.bZ[k]?=some A->∀p,p<16->A.f p=0
 own:∀p,gf W.sp.st p≠0->∃(k:Nat) (A:AR),W.bZ[k]?=some A/\A.f p≠0
 one:∀p (k l:Nat) (A B:AR),W.bZ[k]?=some A->W.bZ[l]?=some B->A.f p≠0->B.f p≠0->k=l
 hk:(W.held.map Pc.key).Nodup
 hf:∀p∈W.held,∃A,W.bZ[p.k]?=some A/\Hd A p
 ht:∀(k:Nat) (A:AR),W.bZ[k]?=some A->∀(j:Nat) (y:Int),fR A j y->∃p∈W.held,p.k=k/\p.cls=j/\(p.addr:Int)=y
 hr:∀(k:Nat) (A:AR),W.bZ[k]?=some A->∀r∈A.runs,∃p∈W.held,p.k=k/\p.cls = -1/\p.addr=r.1*256
variable {W:Wd}{k:Nat}{A:AR}
theorem VL {α:Type}{l:List α}{k j:Nat}{x y:α}(h:(l.set k x)[j]?=some y):(j=k/\y=x/\k<l.length)\/(j≠k/\l[j]?=some y):=by
 by_cases hjk:j=k
 ·subst hjk;have a:j<l.length:=by have:=(cY.1 h).1;simpa using this
  rw[zO a]at h;exact .inl ⟨rfl,(Option.some.inj h).symm,a⟩
 ·rw[zh (Ne.symm hjk)]at h;exact .inr ⟨hjk,h⟩
theorem WI.unique (h:WI W){p q:Pc}(hp:p∈W.held)(hq:q∈W.held)(e:p.key=q.key):p=q:=by
 obtain⟨i,hi⟩:=zP hp;obtain⟨j,d⟩:=zP hq;obtain⟨b,rfl⟩:=cY.1 hi;obtain⟨a,rfl⟩:=cY.1 d;have:=mC.1 h.hk;rcases qO i j with hl|hl|hl
 ·exact(this i j (by simpa using b) (by simpa using a) hl (by simpa using e)).elim
 ·subst hl;rfl
 ·exact(this j i (by simpa using a) (by simpa using b) hl (by simpa using e.symm)).elim
theorem WI.step (h:WI W)(hk:W.bZ[k]?=some A){B:AR}{sp':Sp}{held':List Pc}(s:St A B W.sp sp')(h1:(held'.map Pc.key).Nodup)(h2:∀p∈held',p.k=k->Hd B p)(h3:∀p,p.k≠k->(p∈held'↔p∈W.held))
 (h4:∀(j:Nat) (y:Int),fR B j y->∃p∈held',p.k=k/\p.cls=j/\(p.addr:Int)=y) (h5:∀r∈B.runs,∃p∈held',p.k=k/\p.cls = -1/\p.addr=r.1*256):WI (W.put k B sp' held'):=by
 have G:=(cY.1 hk).1;have u:(W.bZ.set k B)[k]?=some B:=zO G;have J:∀{j:Nat} {C:AR},j≠k->W.bZ[j]?=some C->(W.bZ.set k B)[j]?=some C:=λa g=>(zh (Ne.symm a)).trans g;have m:∀{j:Nat} {C:AR},j≠k->W.bZ[j]?=some C->∀p,C.f p≠0->A.f p=0/\B.f p=0/\gf sp'.st p=gf W.sp.st p:=by
  intro j C a g p b;have w:A.f p=0:=Classical.byContradiction λz=>a (h.one p j k C A g hk b z);have x:B.f p=0:=Classical.byContradiction λz=>by
   have:=(s.new p w z).1;exact(h.ow j C g).own p b this
  exact⟨w,x,s.same p w x⟩
 refine⟨λj C a=>?_,λj C a=>?_,λj C a=>?_,λj C a p b=>?_,λp b=>?_,λp j l C D a K g E=>?_,h1,λp b=>?_,λj C a i y H=>?_,λj C a r hr=>?_⟩
 ·rcases VL a with⟨rfl,rfl,_⟩|⟨_,a⟩
  ·exact s.ga
  ·exact h.ga j C a
 ·rcases VL a with⟨rfl,rfl,_⟩|⟨d,a⟩
  ·exact s.ow
  ·have o:=h.ow j C a;have M:=h.ow k A hk;refine⟨?_,λp b=>?_,λp b=>?_,s.ow.le⟩
   ·show sp'.st.length=C.n;rw[s.ow.l,s.n,←M.l,o.l]
   ·show gf sp'.st p≠0;rw[(m d a p b).2.2];exact o.own p b
   ·show gf sp'.st p=1;rw[(m d a p O).2.2];exact o.cl p b
 ·rcases VL a with⟨rfl,rfl,_⟩|⟨_,a⟩
  ·exact s.tb.trans (h.tb _ A hk)
  ·exact h.tb j C a
 ·rcases VL a with⟨rfl,rfl,_⟩|⟨_,a⟩
  ·apply Classical.byContradiction;intro z;have:=s.new p (h.low _ A hk p b) z;omega
  ·exact h.low j C a p b
 ·have b:gf sp'.st p≠0:=b;by_cases x:B.f p=0
  ·by_cases w:A.f p=0
   ·rw[s.same p w x]at b;obtain⟨j,C,a,g⟩:=h.own p b;have d:j≠k:=by
     rintro rfl;rw[hk]at a;cases a;exact g w
    exact⟨j,C,J d a,g⟩
   ·exact(b (s.gone p w x)).elim
  ·exact⟨k,B,u,x⟩
 ·rcases VL a with⟨rfl,rfl,_⟩|⟨d,hj'⟩
  ·rcases VL K with⟨rfl,rfl,_⟩|⟨hne2,hl'⟩
   ·rfl
   ·exact(g (m hne2 hl' p E).2.1).elim
  ·rcases VL K with⟨rfl,rfl,_⟩|⟨hne2,hl'⟩
   ·exact(E (m d hj' p g).2.1).elim
   ·exact h.one p j l C D hj' hl' g E
 ·by_cases hpk:p.k=k
  ·exact⟨B,by rw[hpk];exact u,h2 p b hpk⟩
  ·obtain⟨C,g,L⟩:=h.hf p ((h3 p hpk).1 b);exact⟨C,J hpk g,L⟩
 ·rcases VL a with⟨rfl,rfl,_⟩|⟨d,a⟩
  ·exact h4 i y H
  ·obtain⟨p,b,e1,e2,F⟩:=h.ht j C a i y H;exact⟨p,(h3 p (by rw[e1];exact d)).2 b,e1,e2,F⟩
 ·rcases VL a with⟨rfl,rfl,_⟩|⟨d,a⟩
  ·exact h5 r hr
  ·obtain⟨p,b,e1,e2,F⟩:=h.hr j C a r hr;exact⟨p,(h3 p (by rw[e1];exact d)).2 b,e1,e2,F⟩
theorem Hd.to {B:AR}{p:Pc}(h:Hd A p)(e1:B.tb=A.tb)(e2:B.runs=A.runs)(e3:∀j y,fR A j y->fR B j y)(e4:∀j y,ib B j y↔ib A j y):Hd B p:=by
 rcases h with⟨h1,h2,r,hr,h3⟩|⟨j,c,h1,h2,h3,h4,h5⟩
 ·exact .inl ⟨h1,h2,r,by rw[e2];exact hr,h3⟩
 ·exact .inr ⟨j,c,h1,by rw[e1];exact h2,h3,e3 _ _ h4,by rw[e4];exact h5⟩
theorem WI.hd (h:WI W)(hk:W.bZ[k]?=some A){p:Pc}(hp:p∈W.held)(e:p.k=k):Hd A p:=by
 obtain⟨C,a,b⟩:=h.hf p hp;rw[e,hk]at a;cases a;exact b
theorem WI.lQ (h:WI W)(hk:W.bZ[k]?=some A){B:AR}{sp':Sp}(s:St A B W.sp sp')(e2:B.runs=A.runs)(e3:∀j y,fR B j y↔fR A j y)(e4:B.cR=A.cR):WI (W.put k B sp' W.held):=
 h.step hk s h.hk (λp a e=>(h.hd hk a e).to s.tb e2 (λj y=>(e3 j y).2) λj y=>by unfold ib;rw[e4]) (λ_ _=>Iff.rfl) (λj y b=>h.ht k A hk j y ((e3 j y).1 b)) λr hr=>h.hr k A hk r (by rw[←e2];exact hr)
theorem WI.cls (h:WI W){p:Pc}(hp:p∈W.held){j:Nat}(e:p.cls=j)(hk:W.bZ[p.k]?=some A):∃c,A.tb[j]?=some c/\p.size=c.size/\fR A j (p.addr:Int)/\(p.eT=true↔ib A j (p.addr:Int)):=by
 rcases h.hd hk hp rfl with⟨h1,_⟩|⟨i,c,h1,h2,h3,h4,h5⟩
 ·omega
 ·obtain rfl:i=j:=by omega
  exact⟨c,h2,h3,h4,h5⟩
theorem WI.run (h:WI W){p:Pc}(hp:p∈W.held)(e:p.cls = -1)(hk:W.bZ[p.k]?=some A):p.eT=false/\∃r∈A.runs,p.addr=r.1*256/\p.size=r.2*256:=by
 rcases h.hd hk hp rfl with⟨_,h2⟩|⟨i,c,h1,_⟩
 ·exact h2
 ·omega
theorem Vm {k:Nat}{cls x:Int}{p:Pc}:l7 k cls x p=true↔p.k=k/\p.cls=cls/\(p.addr:Int)=x/\p.eT=false:=by
 simp[l7]
theorem QC {k:Nat}{cls:Int}{l:List Int}{p:Pc}:eI k cls l p=true↔p.k=k/\p.cls=cls/\(p.addr:Int)∈l:=by
 simp[eI]
theorem R4 {held:List Pc}{k:Nat}{cls x:Int}{i:Nat}(h:wq held k cls x=some i):∃p,held[i]?=some p/\l7 k cls x p=true:=by
 obtain⟨hi,a,_⟩:=nK.1 h;exact⟨held[i],cW hi,a⟩
theorem Nr {held:List Pc}{k:Nat}{cls x:Int}{p:Pc}(hp:p∈held)(h:l7 k cls x p=true):(wq held k cls x).isSome=true:=by
 unfold wq;rw[List.findIdx?_isSome,zy];exact⟨p,hp,h⟩
theorem Vp {held:List Pc}{k:Nat}{cls:Int}{l:List Int}:jt held k cls l=true↔(∀x∈l,∃p∈held,l7 k cls x p=true)/\l.Nodup:=by
 unfold jt;rw[zF,kx,zV];refine and_congr_left λ_=>forall_congr' λx=>imp_congr_right λa=>?_;unfold wq;rw[List.findIdx?_isSome,zy]
theorem Sm {held:List Pc}(hn:(held.map Pc.key).Nodup){i:Nat}{p:Pc}(hi:held[i]?=some p):held.take i++held.drop (i+1)=held.filter λq=>!(q.key==p.key):=by
 induction held generalizing i with
 | nil=>simp at hi
 | cons q l ih=>
  rw[zR,zj]at hn;cases i with
  | zero=>
   simp only[Bd,Option.some.injEq]at hi;subst hi;have:l.filter (λr=>!(r.key==q.key))=l:=by
    rw[qB];intro r hr;have:r.key≠q.key:=λe=>hn.1 (zE.2 ⟨r,hr,e⟩);simpa using this
   simp[this]
  | succ i=>
   have hi:l[i]?=some p:=by simpa using hi
   have a:q.key≠p.key:=λe=>hn.1 (zE.2 ⟨p,zG hi,e.symm⟩);rw[wm,vD,lN,ih hn.2 hi,tL];have:(!(q.key==p.key))=true:=by simpa using a
   rw[this];rfl
theorem Uv {held:List Pc}(hn:(held.map Pc.key).Nodup)(f:Pc->Bool):((held.filter f).map Pc.key).Nodup:=hn.sublist (List.filter_sublist.map _)
theorem FK {k:Nat}{cls:Int}:∀(l:List Int) {held:List Pc},(held.map Pc.key).Nodup->(∀x∈l,∃p∈held,l7 k cls x p=true)->l.Nodup->yi held k cls l=held.filter λp=>!eI k cls l p
 | [],held,_,_,_=>by
  have:∀p,eI k cls [] p=false:=λp=>by simp[eI]
  exact(qB.2 λp _=>by rw[this];rfl).symm
 | x::l,held,hn,ho,hl=>by
  obtain⟨p,B,A⟩:=ho x aA;obtain⟨i,hi⟩:=pc.1 (Nr B A);obtain⟨q,w,j⟩:=R4 hi;have g:=zj.1 hl;have e1:lS k cls held x=held.filter λr=>!(r.key==q.key):=by unfold lS;rw[hi];exact Sm hn w
  obtain⟨q1,q2,q3,q4⟩:=Vm.1 j;have u:=FK l (held:=held.filter λr=>!(r.key==q.key)) (Uv hn _) (λy s=>by
   obtain⟨r,m,d⟩:=ho y (by simp[s]);refine⟨r,zJ.2 ⟨m,?_⟩,d⟩;have:r.key≠q.key:=λe=>by
    have C:r.addr=q.addr:=congrArg (λz:Key=>z.2.2) e;have:=(Vm.1 d).2.2.1;have:y=x:=by omega
    subst this;exact g.1 s
   simpa using this) g.2
  unfold yi at u ⊢;rw[ru,e1,u,DI];apply wA;intro r m;have e:(r.key==q.key)=(r.k==k&&(r.cls==cls&&(r.addr:Int)==x)):=by
   rw[kW];simp only[Pc.key,zU,zF,Prod.mk.injEq];constructor
   ·rintro⟨a,b,c⟩;exact⟨O,O,O⟩
   ·rintro⟨a,b,c⟩;exact⟨O,O,O⟩
  rw[e];unfold eI;rw[List.contains_cons];cases r.k==k<;>cases r.cls==cls<;>cases((r.addr:Int)==x)<;>cases l.contains (r.addr:Int)<;>rfl
theorem Kj {held:List Pc}{k:Nat}{cls:Int}{l:List Int}{m:Bool}{p:Pc}:p∈GH held k cls l m↔∃q∈held,p=if eI k cls l q then{q with eT:=m}else q:=by
 unfold GH;rw[zE];constructor
 ·rintro⟨q,hq,rfl⟩;exact⟨q,hq,rfl⟩
 ·rintro⟨q,hq,rfl⟩;exact⟨q,hq,rfl⟩
theorem Υ {held:List Pc}{k:Nat}{cls:Int}{l:List Int}{m:Bool}:(GH held k cls l m).map Pc.key=held.map Pc.key:=by
 unfold GH;rw[lO];apply ku;intro p _;simp only[Function.comp];split<;>rfl
theorem yB (hk:W.bZ[k]?=some A)(h:WI W):WI (W.put k A W.sp W.held):=h.lQ hk (St.refl (h.ga k A hk) (h.ow k A hk)) rfl (λ_ _=>Iff.rfl) rfl
theorem ζ (h:GA A){j:Nat}{c:cA}{ss:List cH}(hc:Cl A j c ss){l:Nat}{s:cH}{i:Nat}(hs:ss[l]?=some s)(hi:i<c.n){x:Nat}(h1:at_ c s i<=x)(h2:x<at_ c s i+c.size):Hy A (x:Int)=some ((j:Int),at_ c s i):=by
 have d:=h.cG j c ss hc;have a:=Gq d.pos hi h1 h2;have b:=h.used hc (zG hs) a.1 a.2;have g:=h.pg.lt (p:=x/256) (by rw[b.1];omega);have u:=h.pg.n2;have m:=hc.lt;have r:=h.tb;unfold Hy;rw[zB O,dH];simp only;rw[zC (show x/256<1024 by omega),b.2,zB O,zB O,Nat.add_sub_cancel,hc.1,hc.2];simp only;rw[(Em d).2 ⟨l,s,i,hs,hi,rfl,O,O⟩];rfl
theorem IW (h:GA A){r:Nat×Nat}(hr:r∈A.runs){x:Nat}(h1:r.1*256<=x)(h2:x<(r.1+r.2)*256):Hy A (x:Int)=some (-1,r.1*256):=by
 have a:=h.jE hr (p:=x/256) O O;have b:=h.pg.lt (p:=x/256) (by rw[a.1];omega);have d:=h.pg.n2;unfold Hy;rw[zB O,dH];simp only;rw[zC (show x/256<1024 by omega),a.2,zB O,zC rfl,Dg h.pN hr O O];rfl
theorem Tx (h:GA A){x:Int}{k:Int}{a:Nat}(hf:Hy A x=some (k,a)):(k = -1/\∃r∈A.runs,a=r.1*256/\((r.1*256:Nat):Int)<=x/\x<(((r.1+r.2)*256:Nat):Int)) ∨
 ∃(j:Nat) (c:cA) (ss:List cH) (l:Nat) (s:cH) (i:Nat),k=j/\Cl A j c ss/\ss[l]?=some s/\i<c.n/\a=at_ c s i/\((at_ c s i:Nat):Int)<=x/\x<((at_ c s i+c.size:Nat):Int):=by
 unfold Hy at hf;split at hf
 ·cases hf
 ·rename_i hx;obtain⟨y,rfl⟩:=zc (show 0<=x by omega);rw[dH]at hf;simp only at hf;by_cases hlt:y/256<1024
  ·rw[zC hlt]at hf;split at hf
   ·cases hf
   ·split at hf
    ·rename_i h0 h41;obtain⟨r,g,b⟩:=oH.1 hf;have p:=uu g;have m:=uR g;simp at m;cases b;exact .inl ⟨rfl,r,p,rfl,O,O⟩
    ·rename_i h0 h41;split at hf
     ·rename_i c ss h1 h2;obtain⟨C,B,b⟩:=oH.1 hf;cases b;have d:Cl A (A.ow (y/256)-1) c ss:=⟨h1,h2⟩;obtain⟨l,s,i,u,hi,rfl,w,z⟩:=(Em (h.cG _ _ _ d)).1 B;exact .inr ⟨_,c,ss,l,s,i,rfl,d,u,hi,rfl,w,z⟩
     ·cases hf
  ·rw[zB hlt,zC rfl]at hf;cases hf
theorem fR.find (h:GA A){j:Nat}{x:Int}(hx:fR A j x):∃y:Nat,x=y/\Hy A x=some ((j:Int),y):=by
 obtain⟨c,d,a,g⟩:=hx;have b:=h.cG j c d a;obtain⟨l,s,i,m,hi,rfl,p⟩:=(Uk b).1 g;exact⟨_,rfl,ζ h a m hi (zD _) (by have:=b.pos;omega)⟩
theorem Bx (h:GA A){x:Int}:yw A x=true↔(∃j,fR A j x)\/∃r∈A.runs,x=((r.1*256:Nat):Int):=by
 constructor
 ·intro hx;unfold yw at hx;split at hx
  ·rename_i k a d;split at hx
   ·rename_i he;rcases Tx h d with⟨rfl,r,hr,rfl,_⟩|⟨j,c,g,l,s,i,rfl,b,hs,hi,rfl,_⟩
    ·exact .inr ⟨r,hr,he.symm⟩
    ·rw[zB O,dH,b.1,b.2]at hx;exact .inl ⟨j,c,g,b,by simpa[Tk]using hx⟩
   ·cases hx
  ·cases hx
 ·rintro(⟨j,hj⟩|⟨r,hr,rfl⟩)
  ·obtain⟨y,rfl,d⟩:=hj.find h;obtain⟨c,g,b,m⟩:=hj;unfold yw;rw[d];simp only;rw[zC True.intro,zB O,dH,b.1,b.2];unfold Tk at m;show(eH c g (y:Int)==some true)=true;rw[m];rfl
  ·unfold yw;have:=h.gZ r hr;rw[IW h hr (zD _) O];simp
theorem WI.wD (h:WI W)(hk:W.bZ[k]?=some A){cl:Int}{l:List Int}(ho:jt W.held k cl l=true){j:Nat}(e:cl=j):∀x∈l,¬ib A j x:=by
 intro x hx hin;obtain⟨p,i,a⟩:=(Vp.1 ho).1 x hx;obtain⟨g,r,m,d⟩:=Vm.1 a;obtain⟨c,_,_,_,b⟩:=h.cls i (j:=j) (by rw[r,e]) (by rw[g];exact hk);rw[m]at b;rw[b.2 hin]at d;cases d
theorem WI.grow (h:WI W)(hk:W.bZ[k]?=some A)(x:Int):WI (W.put k (cQ A W.sp x).1 (cQ A W.sp x).2 W.held):=by
 obtain⟨s,e1,e2,a,_⟩:=M4 (h.ga k A hk) (h.ow k A hk) x;exact h.lQ hk s e1 a e2
theorem WI.from (h:WI W)(hk:W.bZ[k]?=some A)(cl m:Int):WI (W.put k (YT A cl m) W.sp (W.held++(YB A cl m).map λy=>⟨k,cl,y,pz W.tb cl,false⟩)):=by
 obtain⟨o,e1,e2,J,E,B⟩:=I9 (h.ga k A hk) cl m;have tb:(YT A cl m).tb=A.tb:=o.kp.tb;have i:∀y∈YB A cl m,∃j:Nat,cl=j/\j<A.tb.length:=λy g=>J (λe=>by rw[e]at g;simp at g);have w:∀y∈YB A cl m,∀p∈W.held,¬(p.k=k/\p.cls=cl/\p.addr=y):=by
  rintro y g p d ⟨H,L,F⟩;obtain⟨j,rfl,_⟩:=i y g;obtain⟨c,_,_,ht,_⟩:=h.cls d L (by rw[H];exact hk);rw[F]at ht;exact E y g (by rw[dH];exact ht)
 refine h.step hk (o.st (h.ow k A hk)) ?_ (λp d e=>?_) (λp C=>?_) (λj y g=>?_) λr hr=>?_
 ·rw[zo,nf];refine⟨h.hk,?_,λa N b M e=>?_⟩
  ·rw[lO];exact List.Pairwise.map (R:=(· ≠ ·)) _ (λa b z e=>z (by simpa[Pc.key]using e)) e2
  ·subst e;obtain⟨p,d,rfl⟩:=zE.1 N;obtain⟨q,G,e⟩:=zE.1 M;obtain⟨y,g,rfl⟩:=zE.1 G;simp only[Pc.key,Prod.mk.injEq]at e;exact w y g p d ⟨e.1.symm,e.2.1.symm,e.2.2.symm⟩
 ·rcases zM.1 d with d|d
  ·exact(h.hd hk d e).to tb o.runs (λj y s=>(B j y).2 (.inl s)) λj y=>by unfold ib;rw[e1]
  ·obtain⟨y,g,rfl⟩:=zE.1 d;obtain⟨j,rfl,s⟩:=i y g;refine .inr ⟨j,A.tb[j],rfl,by rw[tb];exact cW s,?_,(B j y).2 (.inr ⟨(dH j).symm,y,g,rfl⟩),?_⟩
   ·show pz W.tb (j:Int)=_;unfold pz;rw[dH,←h.tb k A hk,cW s];rfl
   ·constructor
    ·intro hx;cases hx
    ·rintro⟨t,ht,hx⟩;rw[e1]at ht;obtain⟨c,K,P,D,u⟩:=(h.ga k A hk).cl s;rw[ht]at u;cases u;exact(E y g (by rw[dH];exact(VM D).2 ((h.ga k A hk).mw j c K t D ht _ hx))).elim
 ·rw[zM];constructor
  ·rintro(d|d)
   ·exact d
   ·obtain⟨y,_,rfl⟩:=zE.1 d;exact(C rfl).elim
  ·exact .inl
 ·rcases(B j y).1 g with g|⟨rfl,x,hx,rfl⟩
  ·obtain⟨p,d,q⟩:=h.ht k A hk j y g;exact⟨p,kM _ d,q⟩
  ·obtain⟨j,rfl,_⟩:=i x hx;exact⟨_,oF _ (zE.2 ⟨x,hx,rfl⟩),rfl,by simp,rfl⟩
 ·rw[o.runs]at hr;obtain⟨p,d,q⟩:=h.hr k A hk r hr;exact⟨p,kM _ d,q⟩
theorem WI.AE (h:WI W){cl:Int}{l:List Int}(ho:jt W.held k cl l=true):yi W.held k cl l=W.held.filter λp=>!eI k cl l p:=
 FK l h.hk (Vp.1 ho).1 (Vp.1 ho).2
theorem WI.OA (h:WI W)(hk:W.bZ[k]?=some A){cl:Int}{l:List Int}(ho:jt W.held k cl l=true):WI (W.put k (ZZ A cl l) W.sp (if Kv A cl l=0 then yi W.held k cl l else W.held)):=by
 have ga:=h.ga k A hk;obtain⟨o,e1,e2,J⟩:=Ci ga (k:=cl) (xs:=l) λg x m=>by
  obtain⟨j,c,K,rfl,_⟩:=DC ga g;rw[dH];exact h.wD hk ho rfl x m
 by_cases g:Kv A cl l=0
 ·rw[zC g,h.AE ho];obtain⟨j,c,K,rfl,N,L⟩:=DC ga g;have e2:=e2 g;rw[dH]at e2;refine h.step hk (o.st (h.ow k A hk)) (Uv h.hk _) (λp u e=>?_) (λp B=>?_) (λi y G=>?_) λr hr=>?_
  ·have s:=zJ.1 u;have D:eI k (j:Int) l p=false:=by simpa using s.2
   rcases h.hd hk s.1 e with⟨h1,h2,r,hr,h3⟩|⟨i,d,h1,h2,h3,h4,h5⟩
   ·exact .inl ⟨h1,h2,r,by rw[o.runs];exact hr,h3⟩
   ·refine .inr ⟨i,d,h1,by rw[o.kp.tb];exact h2,h3,(e2 i _).2 ⟨h4,λ⟨a,b⟩=>?_⟩,by unfold ib at h5 ⊢;rw[e1];exact h5⟩;have:eI k (j:Int) l p=true:=QC.2 ⟨e,by rw[h1,a],b⟩;rw[D]at this;cases this
  ·rw[zJ];have:eI k (j:Int) l p=false:=by
    apply nS.2;intro m;exact B (QC.1 m).1
   rw[this];simp
  ·obtain⟨E,C⟩:=(e2 i y).1 G;obtain⟨p,u,z,F,w⟩:=h.ht k A hk i y E;refine⟨p,zJ.2 ⟨u,?_⟩,z,F,w⟩;have:eI k (j:Int) l p=false:=by
    apply nS.2;intro m;obtain⟨_,M,H⟩:=QC.1 m;exact C ⟨O,by rw[←w];exact H⟩
   rw[this];rfl
  ·rw[o.runs]at hr;obtain⟨p,u,z,F,w⟩:=h.hr k A hk r hr;refine⟨p,zJ.2 ⟨u,?_⟩,z,F,w⟩;have:eI k (j:Int) l p=false:=by
    apply nS.2;intro m;have:=(QC.1 m).2.1;omega
   rw[this];rfl
 ·rw[zB g,J g];exact yB hk h
theorem WI.move (h:WI W)(hk:W.bZ[k]?=some A){B:AR}{j:Nat}{l:List Int}{m:Bool}(o:Ob A B)(e1:∀i y,fR B i y↔fR A i y)(e2:∀i y,ib B i y↔if i=j/\y∈l then m=true else ib A i y):WI (W.put k B W.sp (GH W.held k (j:Int) l m)):=by
 refine h.step hk (o.st (h.ow k A hk)) (by rw[Υ];exact h.hk) (λp b e=>?_) (λp a=>?_) (λi y g=>?_) λr hr=>?_
 ·obtain⟨q,w,rfl⟩:=Kj.1 b;have d:q.k=k:=by
   split at e<;>exact e
  rcases h.hd hk w d with⟨h1,h2,r,hr,h3⟩|⟨i,c,h1,h2,h3,h4,h5⟩
  ·have:eI k (j:Int) l q=false:=by
    apply nS.2;intro hx;have:=(QC.1 hx).2.1;omega
   rw[this];exact .inl ⟨h1,h2,r,by rw[o.runs];exact hr,h3⟩
  ·by_cases hx:eI k (j:Int) l q=true
   ·rw[zC hx];obtain⟨_,D,C⟩:=QC.1 hx;have s:i=j:=by omega
    refine .inr ⟨i,c,h1,by rw[o.kp.tb];exact h2,h3,(e1 _ _).2 h4,?_⟩;show m=true↔ib B i (q.addr:Int);rw[e2,zC ⟨s,C⟩]
   ·rw[zB hx];refine .inr ⟨i,c,h1,by rw[o.kp.tb];exact h2,h3,(e1 _ _).2 h4,?_⟩;rw[e2,zB λg=>hx (QC.2 ⟨d,by rw[h1,g.1],g.2⟩)];exact h5
 ·rw[Kj];constructor
  ·rintro⟨q,w,rfl⟩;have:eI k (j:Int) l q=false:=by
    apply nS.2;intro hx;rw[zC hx]at a;exact a (QC.1 hx).1
   rw[this];exact w
  ·intro b;refine⟨p,b,?_⟩;have:eI k (j:Int) l p=false:=by
    apply nS.2;intro hx;exact a (QC.1 hx).1
   rw[this];rfl
 ·obtain⟨p,b,x,z,u⟩:=h.ht k A hk i y ((e1 i y).1 g);refine⟨_,Kj.2 ⟨p,b,rfl⟩,?_,?_,?_⟩
  ·split<;>exact x
  ·split<;>exact z
  ·split<;>exact u
 ·rw[o.runs]at hr;obtain⟨p,b,x,z,u⟩:=h.hr k A hk r hr;refine⟨_,Kj.2 ⟨p,b,rfl⟩,?_,?_,?_⟩
  ·split<;>exact x
  ·split<;>exact z
  ·split<;>exact u
theorem OP {held:List Pc}{k:Nat}{cls:Int}{m:Bool}:GH held k cls [] m=held:=by
 unfold GH;have:∀p,eI k cls [] p=false:=λp=>by simp[eI]
 simp[this]
theorem WI.xg (h:WI W)(hk:W.bZ[k]?=some A)(cl:Int):WI (W.put k (Z1 A cl) W.sp (GH W.held k cl (YR A cl) false)):=by
 obtain⟨o,e1,e2,s,m,a⟩:=Ia (h.ga k A hk) cl;by_cases hv:YR A cl=[]
 ·rw[hv,OP];have b:∀j y,ib (Z1 A cl) j y↔ib A j y:=λj y=>by rw[a,hv];simp
  refine h.step hk (o.st (h.ow k A hk)) h.hk (λp g e=>(h.hd hk g e).to o.kp.tb o.runs (λj y=>(e1 j y).2) b) (λ_ _=>Iff.rfl) (λj y d=>h.ht k A hk j y ((e1 j y).1 d)) λr hr=>h.hr k A hk r (by rw[←o.runs];exact hr)
 ·obtain⟨j,rfl,_⟩:=m hv;rw[dH]at a;exact h.move hk o e1 λi y=>by
   rw[a];split
   ·rename_i hx;simp[hx]
   ·rename_i hx;simp[hx]
theorem WI.OC (h:WI W)(hk:W.bZ[k]?=some A){cl:Int}{l:List Int}(ho:jt W.held k cl l=true):WI (W.put k (KG A cl l) W.sp (if VG A cl l then GH W.held k cl l true else W.held)):=by
 by_cases a:VG A cl l=true
 ·have b:∃j:Nat,cl=j:=by
   have d:HT A cl l=0:=by
    unfold VG at a;simp only[zF,zV]at a;exact a.1
   have b:A.ck cl=true:=by
    unfold HT at d;split at d
    ·assumption
    ·cases d
   obtain⟨j,g,_⟩:=HE.1 b;exact⟨j,g⟩
  obtain⟨j,rfl⟩:=b;obtain⟨o,e1,e2,_⟩:=Pj (h.ga k A hk) (j:Int) (xs:=l) (Vp.1 ho).2 (by rw[dH];exact h.wD hk ho rfl);obtain⟨_,_,e2⟩:=e2 a;rw[dH]at e2;rw[a,zC rfl];exact h.move hk o e1 λi y=>by
   rw[e2];split
   ·rename_i hx;simp[hx]
   ·rename_i hx;simp[hx]
 ·have a:VG A cl l=false:=by simpa using a
  have e:KG A cl l=A:=by unfold KG;rw[a];rfl
  rw[a,e];exact yB hk h
theorem WI.ye (h:WI W)(hk:W.bZ[k]?=some A)(m a:Int):WI (W.put k (cC A W.sp m a).1 (cC A W.sp m a).2 (if Q6 A W.sp m a=0 then W.held++[⟨k, -1,QE A W.sp m a*256,m.toNat*256,false⟩]else W.held)):=by
 rcases Mo (h.ga k A hk) (h.ow k A hk) m a with⟨e,hE,_⟩|⟨x,A1,sp1,g,hE,hV,e,htk,hor,s,et,ek⟩
 ·rw[zB hE,e];exact yB hk h
 ·rw[zC hE,hV];have z:(cC A W.sp m a).1.runs=A.runs++[(x,m.toNat)]:=by rw[e]
  have u:∀r∈A.runs,r.1≠x:=by
   have hd:=s.ga.kK;rw[z]at hd;intro r hr e2;have w:=(qP.1 hd).2.2 r hr (x,m.toNat) aA;have B:=(h.ga k A hk).gZ r hr;have i:=s.ga.gZ (x,m.toNat) (by rw[z];simp);simp only at w i;omega
  refine h.step hk s ?_ (λp g e=>?_) (λp C=>?_) (λj y D=>?_) λr hr=>?_
  ·rw[zo,nf];refine⟨h.hk,by simp,λb E d hd e2=>?_⟩;subst e2;obtain⟨p,g,rfl⟩:=zE.1 E;simp only[zR,oL,zN,Pc.key,Prod.mk.injEq]at hd;obtain⟨_,r,hr,i,_⟩:=h.run g hd.2.1 (A:=A) (by rw[hd.1];exact hk);exact u r hr O
  ·rcases zM.1 g with g|g
   ·rcases h.hd hk g e with⟨w,B,r,hr,i⟩|⟨j,c,w,B,i,h4,h5⟩
    ·exact .inl ⟨w,B,r,by rw[z];exact kM _ hr,i⟩
    ·exact .inr ⟨j,c,w,by rw[s.tb];exact B,i,(ek _ _).2 h4,by unfold ib at h5 ⊢;rw[et];exact h5⟩
   ·simp only[zN]at g;subst g;exact .inl ⟨rfl,rfl,(x,m.toNat),by rw[z];simp,rfl,rfl⟩
  ·rw[zM];constructor
   ·rintro(g|g)
    ·exact g
    ·simp only[zN]at g;subst g;exact(C rfl).elim
   ·exact .inl
  ·obtain⟨p,g,q⟩:=h.ht k A hk j y ((ek j y).1 D);exact⟨p,kM _ g,q⟩
  ·rw[z]at hr;rcases zM.1 hr with hr|hr
   ·obtain⟨p,g,q⟩:=h.hr k A hk r hr;exact⟨p,kM _ g,q⟩
   ·simp only[zN]at hr;subst hr;exact⟨_,oF _ (zN.2 rfl),rfl,rfl,rfl⟩
theorem WI.nc (h:WI W)(hk:W.bZ[k]?=some A){r:Nat×Nat}(hr:r∈A.runs):jt W.held k (-1) [(r.1:Int)*256]=true:=by
 refine Vp.2 ⟨λx g=>?_,by simp⟩;simp only[zN]at g;subst g;obtain⟨p,a,d,b,i⟩:=h.hr k A hk r hr;exact⟨p,a,Vm.2 ⟨d,b,O,(h.run a b (by rw[d];exact hk)).1⟩⟩
theorem WI.wZ (h:WI W)(hk:W.bZ[k]?=some A)(x:Int):WI (W.put k (Kc A x) W.sp (if VA A x=0 then yi W.held k (-1) [x*256]else W.held)):=by
 have ga:=h.ga k A hk;obtain⟨⟨kp,g⟩,L,G,e1,e2⟩:=Rj ga x;by_cases h0:VA A x=0
 ·rw[zC h0];obtain⟨r,hr,rfl,H⟩:=e2 h0;rw[h.AE (h.nc hk hr)];have m:∀p:Pc,eI k (-1) [(r.1:Int)*256] p=true↔p.k=k/\p.cls = -1/\p.addr=r.1*256:=λp=>by
   rw[QC];simp only[zN];constructor
   ·rintro⟨a,b,c⟩;exact⟨a,b,O⟩
   ·rintro⟨a,b,c⟩;exact⟨a,b,O⟩
  refine h.step hk (St.kp g (h.ow k A hk) kp) (Uv h.hk _) (λp z e=>?_) (λp F=>?_) (λi y K=>?_) λq d=>?_
  ·have s:=zJ.1 z;have u:¬eI k (-1) [(r.1:Int)*256] p=true:=by simpa using s.2
   rw[m]at u;rcases h.hd hk s.1 e with⟨h1,h2,q,d,w⟩|⟨j,c,h1,h2,w,J,B⟩
   ·refine .inl ⟨h1,h2,q,?_,w⟩;rw[H,zJ];refine⟨d,?_⟩;have:q≠r:=by rintro rfl;exact u ⟨e,h1,w.1⟩
    simpa using this
   ·exact .inr ⟨j,c,h1,by rw[kp.tb];exact h2,w,(G _ _).2 J,by unfold ib at B ⊢;rw[L];exact B⟩
  ·rw[zJ];have:eI k (-1) [(r.1:Int)*256] p=false:=by
    apply nS.2;intro hx;exact F (QC.1 hx).1
   rw[this];simp
  ·obtain⟨p,z,E,D,C⟩:=h.ht k A hk i y ((G i y).1 K);refine⟨p,zJ.2 ⟨z,?_⟩,E,D,C⟩;have:eI k (-1) [(r.1:Int)*256] p=false:=by
    apply nS.2;intro hx;have:=((m p).1 hx).2.1;omega
   rw[this];rfl
  ·rw[H,zJ]at d;obtain⟨p,z,E,D,C⟩:=h.hr k A hk q d.1;refine⟨p,zJ.2 ⟨z,?_⟩,E,D,C⟩;have:eI k (-1) [(r.1:Int)*256] p=false:=by
    apply nS.2;intro hx;have w:=((m p).1 hx).2.2;have J:=ga.gZ q d.1;have B:=ga.gZ r hr;have:q=r:=ga.gT d.1 hr (x:=q.1) O O O O;subst this;simp at d
   rw[this];rfl
 ·rw[zB h0,e1 h0];exact yB hk h
theorem WI.tick (h:WI W)(hk:W.bZ[k]?=some A):WI (W.put k (sP A) W.sp (yD (W.bZ.set k (sP A)) W.held)):=by
 have ga:=h.ga k A hk;have t:=OE ga;have u:=(cY.1 hk).1;have d:(W.bZ.set k (sP A))[k]?=some (sP A):=zO u;have bS:∀p∈W.held,p∈yD (W.bZ.set k (sP A)) W.held↔(p.k=k->∀j:Nat,p.cls=j->fR (sP A) j (p.addr:Int)):=by
  intro p a;unfold yD;rw[zJ];simp only[a,uA,nB,mL];by_cases hpk:p.k=k
  ·rw[hpk,d];simp only[true_implies];rcases h.hd hk a hpk with⟨h1,h2,r,hr,h3⟩|⟨j,c,h1,h2,h3,h4,h5⟩
   ·exact⟨λ_ j z=>O,λ_=>.inl h2⟩
   ·constructor
    ·intro hx i hi;obtain rfl:i=j:=by omega
     rcases hx with hx|hx
     ·refine(t.tk i _).2 ⟨h4,λB=>?_⟩;rw[h5.2 B]at hx;cases hx
     ·rcases(Bx t.ob.ga).1 hx with⟨j',hj'⟩|⟨r,hr,e⟩
      ·obtain⟨y,e,hf⟩:=((t.tk j' _).1 hj').1.find ga;obtain⟨J,G,b⟩:=h4.find ga;rw[hf]at b;have:j'=i:=by
        have:=congrArg Prod.fst (Option.some.inj b);simp only at this;omega
       rw[←this];exact hj'
      ·rw[t.ob.runs]at hr;have:=ga.gZ r hr;have H:=IW ga hr (x:=r.1*256) (zD _) O;obtain⟨J,G,b⟩:=h4.find ga;rw[e,H]at b;have:=congrArg Prod.fst (Option.some.inj b);simp only at this;omega
    ·intro hx;by_cases hm:p.eT=true
     ·exact .inr ((Bx t.ob.ga).2 (.inl ⟨j,hx j h1⟩))
     ·exact .inl (by simpa using hm)
  ·constructor
   ·intro _ hx;exact(hpk hx).elim
   ·intro _;obtain⟨C,F,K⟩:=h.hf p a;rw[zh (Ne.symm hpk),F];rcases K with⟨h1,h2,_⟩|⟨j,c,_,_,_,h4,_⟩
    ·exact .inl h2
    ·exact .inr ((Bx (h.ga _ C F)).2 (.inl ⟨j,h4⟩))
 have sub:∀p,p∈yD (W.bZ.set k (sP A)) W.held->p∈W.held:=λp a=>(zJ.1 a).1;refine h.step hk (t.ob.st (h.ow k A hk)) (Uv h.hk _) (λp a e=>?_) (λp s=>⟨sub p,λa=>(bS p a).2 λe=>(s e).elim⟩) (λj y E=>?_) λr hr=>?_
 ·have w:=(bS p (sub p a)).1 a e;rcases h.hd hk (sub p a) e with⟨h1,h2,r,hr,h3⟩|⟨j,c,h1,h2,h3,h4,h5⟩
  ·exact .inl ⟨h1,h2,r,by rw[t.ob.runs];exact hr,h3⟩
  ·have z:=w j h1;refine .inr ⟨j,c,h1,by rw[t.ob.kp.tb];exact h2,h3,z,?_⟩;rw[h5];exact⟨((t.tk j _).1 z).2,t.sub j _⟩
 ·obtain⟨p,a,m,D,g⟩:=h.ht k A hk j y ((t.tk j y).1 E).1;refine⟨p,(bS p a).2 λ_ i hi=>?_,m,D,g⟩;obtain rfl:i=j:=by omega
  rw[g];exact E
 ·rw[t.ob.runs]at hr;obtain⟨p,a,m,D,g⟩:=h.hr k A hk r hr;exact⟨p,(bS p a).2 λ_ i hi=>O,m,D,g⟩
theorem WI.px (h:WI W){p:Pc}(hp:p∈W.held)(hk:W.bZ[p.k]?=some A){x:Nat}(h1:p.addr<=x)(h2:x<p.addr+p.size):A.f (x/256)=1:=by
 have ga:=h.ga _ A hk;rcases h.hd hk hp rfl with⟨_,_,r,hr,e1,e2⟩|⟨j,c,_,hc,e1,ht,_⟩
 ·exact(ga.jE hr O O).1
 ·obtain⟨b,m,a,d⟩:=ht;have:b=c:=Option.some.inj (a.1.symm.trans hc);subst this;have g:=ga.cG j b m a;obtain⟨l,s,i,u,hi,e,_⟩:=(Uk g).1 d;have w:p.addr=at_ b s i:=Int.ofNat.inj e;have:=Gq g.pos hi (s:=s) (x:=x) O O;exact(ga.used a (zG u) this.1 this.2).1
theorem WI.write (h:WI W){x v:Int}(hi:Ik W.held x=true):WI {W with sp:=Zm W.sp x v}:=by
 unfold Ik at hi;rw[zy]at hi;obtain⟨p,i,s⟩:=hi;simp only[zF,zV]at s;obtain⟨y,rfl⟩:=zc (show 0<=x by omega);obtain⟨A,hk,_⟩:=h.hf p i;have w:=h.px i hk (x:=y) O O;have m:=(h.ow _ A hk).own (y/256) O;by_cases hacc:eM W.sp (y:Int)=0
 ·have e:(Zm W.sp (y:Int) v).st=W.sp.st.set (y/256) 2:=by
   unfold Zm;rw[zC hacc];show W.sp.st.set (_/32) 2=_;rw[dH,show y/8/32=y/256 by omega]
  have g:=Lu m;have d:∀q,gf (Zm W.sp (y:Int) v).st q=if q=y/256 then 2 else gf W.sp.st q:=λq=>by
   rw[e];unfold gf;simp only[zQ];by_cases a:q=y/256
   ·subst a;rw[zO g,zC rfl];rfl
   ·rw[zh (Ne.symm a),zB a]
  have r:∀q,gf (Zm W.sp (y:Int) v).st q≠0↔gf W.sp.st q≠0:=λq=>by
   rw[d];split
   ·rename_i a;subst a;simp[m]
   ·exact Iff.rfl
  refine⟨h.ga,λj C b=>?_,h.tb,h.low,λq a=>h.own q ((r q).1 a),h.one,h.hk,h.hf,h.ht,h.hr⟩;have o:=h.ow j C b;refine⟨by show(Zm W.sp (y:Int) v).st.length=_;rw[e,oW];exact o.l,λq a=>(r q).2 (o.own q a),λq a=>?_,λq=>?_⟩
  ·show gf (Zm W.sp (y:Int) v).st q=1;rw[d,zB]
   ·exact o.cl q a
   ·rintro rfl;have u:j=p.k:=h.one (y/256) j p.k C A b hk O O;subst u;rw[hk]at b;cases b;omega
  ·show gf (Zm W.sp (y:Int) v).st q<=2;rw[d];have:=o.le q;split<;>omega
 ·have e:Zm W.sp (y:Int) v=W.sp:=by unfold Zm;rw[zB hacc]
  rw[e];exact h
theorem fR.lt (h:GA A){j:Nat}{x:Int}(hx:fR A j x):∃y:Nat,x=y/\y<262144:=by
 obtain⟨c,g,d,m⟩:=hx;have a:=h.cG j c g d;obtain⟨l,s,i,r,hi,rfl,u⟩:=(Uk a).1 m;have b:=Gq a.pos (s:=s) (x:=at_ c s i) hi (zD _) (by have:=a.pos;omega);have w:=(h.used d (zG r) b.1 b.2).1;have:=h.pg.lt (p:=at_ c s i/256) O;have:=h.pg.n2;exact⟨_,rfl,O⟩
theorem WI.jV (h:WI W){p:Pc}(hp:p∈W.held):p.addr<262144/\p.addr+p.size<=270000:=by
 obtain⟨A,m,i⟩:=h.hf p hp;have ga:=h.ga _ A m;have u:=ga.pg.n2;rcases i with⟨_,_,r,hr,h1,h2⟩|⟨j,c,_,hc,h2,h3,_⟩
 ·have x:=ga.fit hr;have s:=ga.gZ r hr;omega
 ·obtain⟨y,e,w⟩:=h3.lt ga;obtain⟨g,d,a,_⟩:=h3;have:g=c:=Option.some.inj (a.1.symm.trans hc);subst this;have b:=(ga.cG j _ d a).ok;unfold cA.ok at b;omega
theorem FX:∀(N:Nat) (l:List Nat),l.Nodup->(∀x∈l,x<N)->l.length<=N
 | 0,l,_,h=>by
  cases l with
  | nil=>simp
  | cons x l=>have:=h x aA;omega
 | N+1,l,hn,h=>by
  have g:=FX N (l.filter (· != N)) (hn.sublist u6) λx b=>by
   have b:=zJ.1 b;have:=h x b.1;have:x≠N:=by simpa using b.2
   omega
  have d:=List.length_eq_countP_add_countP (l:=l) (p:=(· != N));have i:l.countP (λa=>¬(a != N)=true)<=1:=by
   have e:l.countP (λa=>¬(a != N)=true)=l.count N:=by
    unfold List.count;apply List.countP_congr;intro x _;simp
   rw[e];exact BB.1 hn N
  rw[Bb]at d;omega
theorem WI.apart (h:WI W){p q:Pc}(hp:p∈W.held)(hq:q∈W.held){x:Nat}(p1:p.addr<=x)(p2:x<p.addr+p.size)(q1:q.addr<=x)(q2:x<q.addr+q.size):p=q:=by
 obtain⟨A,m,H⟩:=h.hf p hp;obtain⟨B,y,E⟩:=h.hf q hq;have e1:=h.px hp m p1 p2;have e2:=h.px hq y q1 q2;have z:p.k=q.k:=h.one (x/256) p.k q.k A B m y O O;rw[←z,m]at y;cases y;have ga:=h.ga _ A m;have K:=ga.tb;have own:∀{r:Pc},Hd A r->r.addr<=x->x<r.addr+r.size->(r.cls = -1/\A.ow (x/256)=41/\∃u∈A.runs,r.addr=u.1*256/\u.1<=x/256/\x/256<u.1+u.2) ∨
  ∃(j:Nat) (c:cA) (b:List cH) (l:Nat) (s:cH) (i:Nat),r.cls=j/\A.ow (x/256)=j+1/\Cl A j c b/\b[l]?=some s/\i<c.n/\r.addr=at_ c s i/\r.size=c.size:=by
  intro r hr r1 r2;rcases hr with⟨c1,_,u,hu,c2,c3⟩|⟨j,c,c1,c2,c3,c4,_⟩
  ·exact .inl ⟨c1,(ga.jE hu O O).2,u,hu,c2,O,O⟩
  ·obtain⟨d,b,a,G⟩:=c4;have:d=c:=Option.some.inj (a.1.symm.trans c2);subst this;have D:=ga.cG j d b a;obtain⟨l,s,i,C,hi,e,_⟩:=(Uk D).1 G;have F:r.addr=at_ d s i:=Int.ofNat.inj e;have g:=Gq D.pos (s:=s) (x:=x) hi O O;exact .inr ⟨j,d,b,l,s,i,c1,(ga.used a (zG C) g.1 g.2).2,a,C,hi,F,c3⟩
 refine h.unique hp hq ?_;rcases own H p1 p2 with⟨a1,a2,u,hu,a3,a4,a5⟩|⟨j,c,b,l,s,i,a1,a2,a3,a4,a5,a6,a7⟩
 ·rcases own E q1 q2 with⟨b1,b2,w,hw,b3,b4,b5⟩|⟨j',d,ss',l',s',i',b1,b2,b3,b4,b5,b6,b7⟩
  ·have:=ga.gT hu hw a4 a5 b4 b5;subst this;unfold Pc.key;rw[z,a1,b1,a3,b3]
  ·have:=b3.lt;omega
 ·rcases own E q1 q2 with⟨b1,b2,w,hw,b3,b4,b5⟩|⟨j',d,ss',l',s',i',b1,b2,b3,b4,b5,b6,b7⟩
  ·have:=a3.lt;omega
  ·have J:j=j':=by omega
   subst J;obtain⟨rfl,rfl⟩:=a3.eq b3;have:=UM (ga.cG j c b a3) a4 b4 a5 b5 (x:=x) O O O O;unfold Pc.key;rw[z,a1,b1,a6,b6,this.2.1,this.2.2]
theorem WI.size_pos (h:WI W){p:Pc}(hp:p∈W.held):8<=p.size/\p.size%8=0:=by
 obtain⟨A,m,i⟩:=h.hf p hp;have ga:=h.ga _ A m;rcases i with⟨_,_,r,hr,h1,h2⟩|⟨j,c,_,hc,h2,h3,_⟩
 ·have s:=ga.gZ r hr;omega
 ·obtain⟨g,d,a,_⟩:=h3;have:g=c:=Option.some.inj (a.1.symm.trans hc);subst this;have b:=(ga.cG j _ d a).ok;unfold cA.ok at b;omega
theorem WI.len (h:WI W):W.held.length<=262144:=by
 have s:(W.held.map (·.addr)).Nodup:=by
  have m:=mC.1 h.hk;refine mC.2 λi j hi u d e=>?_;have a:i<W.held.length:=by simpa using hi
  have b:j<W.held.length:=by simpa using u
  refine m i j (by simpa using a) (by simpa using b) d ?_;simp only[tZ]at e ⊢;have s1:=(h.size_pos (kD a)).1;have s2:=(h.size_pos (kD b)).1;rw[h.apart (kD a) (kD b) (x:=W.held[i].addr) (zD _) O O O]
 have:=FX 262144 _ s λx g=>by
  obtain⟨p,r,rfl⟩:=zE.1 g;exact(h.jV r).1
 simpa using this
end Go.Ar
namespace Go.Ar
open Go.Vc (bU dA cN)
def mE (live:List (Int×Bk))(k x:Int):Nat:=live.countP λe=>e.2.2.2.1==k&&e.1==x
def l9 (ls:List Li)(k x:Int):Nat:=if 0<=k then(ls.getD k.toNat ir).os.count x else 0
def mo (bs:List Bt)(k x:Int):Nat:=(bs.map λb=>if(b.1:Int)=k then b.2.count x else 0).sum
def jR (p:Option Ph)(k x:Int):Nat:=match p with
 | some (.dG s _)=>if k = -1/\x=s*256 then 1 else 0
 | _=>0
def gS (g:Th)(k x:Int):Nat:=l9 g.ls k x+mo g.bQ k x+jR g.ph k x
def r7 (H:Hw)(k x:Int):Nat:=mE H.live k x+(H.bR.map λg=>gS g k x).sum
def Um (held:List Pc)(k x:Int):Prop:=∃p∈held,p.eT=false/\p.cls=k/\(p.addr:Int)=x
open Classical in
noncomputable def lC (held:List Pc)(k x:Int):Nat:=if Um held k x then 1 else 0
theorem ID (held:List Pc)(k x:Int):lC held k x<=1:=by unfold lC;split<;>omega
theorem Dr {held:List Pc}{k x:Int}(h:1<=lC held k x):Um held k x:=by
 unfold lC at h;split at h
 ·assumption
 ·omega
theorem V5 {held:List Pc}{k x:Int}(h:Um held k x):lC held k x=1:=by unfold lC;rw[zC h]
theorem KZ {held:List Pc}{k x:Int}(h:¬Um held k x):lC held k x=0:=by unfold lC;rw[zB h]
theorem Ig {l:List Int}(hn:l.Nodup)(x:Int):l.count x=if x∈l then 1 else 0:=by
 split
 ·rename_i h;have a:=BB.1 hn x;have b:=DG.2 h;omega
 ·rename_i h;exact yY.2 h
theorem DP {held held':List Pc}{cl:Int}{l:List Int}(hn:l.Nodup)(h0:∀x∈l,¬Um held cl x)(h:∀k x,Um held' k x↔Um held k x\/(k=cl/\x∈l))(k x:Int):lC held' k x=lC held k x+(if cl=k then l.count x else 0):=by
 by_cases hk:cl=k
 ·subst hk;rw[zC rfl,Ig hn];by_cases hx:x∈l
  ·rw[zC hx,KZ (h0 x hx),V5 ((h _ _).2 (.inr ⟨rfl,hx⟩))]
  ·rw[zB hx,kA];by_cases hu:Um held cl x
   ·rw[V5 hu,V5 ((h _ _).2 (.inl hu))]
   ·rw[KZ hu,KZ λa=>by rcases(h _ _).1 a with a|⟨_,a⟩;exact hu a;exact hx a]
 ·rw[zB hk,kA];by_cases hu:Um held k x
  ·rw[V5 hu,V5 ((h _ _).2 (.inl hu))]
  ·rw[KZ hu,KZ λa=>by rcases(h _ _).1 a with a|⟨a,_⟩;exact hu a;exact hk a.symm]
theorem LH {held held':List Pc}{cl:Int}{l:List Int}(hn:l.Nodup)(h0:∀x∈l,Um held cl x)(h:∀k x,Um held' k x↔Um held k x/\¬(k=cl/\x∈l))(k x:Int):lC held k x=lC held' k x+(if cl=k then l.count x else 0):=by
 by_cases hk:cl=k
 ·subst hk;rw[zC rfl,Ig hn];by_cases hx:x∈l
  ·rw[zC hx,V5 (h0 x hx),KZ λa=>((h _ _).1 a).2 ⟨rfl,hx⟩]
  ·rw[zB hx,kA];by_cases hu:Um held cl x
   ·rw[V5 hu,V5 ((h _ _).2 ⟨hu,λa=>hx a.2⟩)]
   ·rw[KZ hu,KZ λa=>hu ((h _ _).1 a).1]
 ·rw[zB hk,kA];by_cases hu:Um held k x
  ·rw[V5 hu,V5 ((h _ _).2 ⟨hu,λa=>hk a.1.symm⟩)]
  ·rw[KZ hu,KZ λa=>hu ((h _ _).1 a).1]
theorem Jj {α:Type}(f:α->Nat):∀{l:List α} {t:Nat} {g:α} (g':α),l[t]?=some g->((l.set t g').map f).sum+f g=(l.map f).sum+f g'
 | [],t,g,g',h=>by simp at h
 | a::l,0,g,g',h=>by
  simp only[Bd,Option.some.injEq]at h;subst h;simp only[List.set_cons_zero,zR,ox];omega
 | a::l,t+1,g,g',h=>by
  have:=Jj f (l:=l) (t:=t) g' (by simpa using h);simp only[tI,zR,ox];omega
theorem BU {α:Type}(f:α->Nat){l:List α}{g:α}(h:g∈l):f g<=(l.map f).sum:=by
 induction l with
 | nil=>simp at h
 | cons a l ih=>
  simp only[zR,ox];rcases zW.1 h with rfl|h
  ·omega
  ·have:=ih h;omega
theorem wG (ls:List Li)(k:Nat)(x:Int):l9 ls (k:Int) x=(ls.getD k ir).os.count x:=by
 unfold l9;rw[zC O,dH]
theorem Jt {ls:List Li}{j:Nat}(l:Li)(k:Nat)(h:j<ls.length):(ls.set j l).getD k ir=if k=j then l else ls.getD k ir:=by
 rw[zQ,nG];by_cases hkj:k=j
 ·subst hkj;simp[h]
 ·rw[zB hkj,zB (Ne.symm hkj),zQ]
theorem Nt {ls:List Li}{j:Nat}(l:Li)(h:j<ls.length)(k x:Int):l9 (ls.set j l) k x+(if(j:Int)=k then(ls.getD j ir).os.count x else 0)=l9 ls k x+(if(j:Int)=k then l.os.count x else 0):=by
 by_cases hk:0<=k
 ·obtain⟨k,rfl⟩:=zc hk;rw[wG,wG,Jt l k h];by_cases hjk:j=k
  ·subst hjk;simp;omega
  ·have:¬(j:Int)=(k:Int):=by omega
   rw[zB (Ne.symm hjk),zB this,zB this]
 ·unfold l9;rw[zB hk,zB hk,zB O,zB O]
theorem V2 (k x:Int):mo [] k x=0:=rfl
theorem Vn (b:Bt)(bs:List Bt)(k x:Int):mo (b::bs) k x=(if(b.1:Int)=k then b.2.count x else 0)+mo bs k x:=by
 unfold mo;rw[zR,ox]
theorem EI (a b:List Bt)(k x:Int):mo (a++b) k x=mo a k x+mo b k x:=by
 unfold mo;rw[zo,List.sum_append]
theorem J6 {f:cA->Li->List Int×Li}(hf:∀c l x,(f c l).1.count x+(f c l).2.os.count x=l.os.count x){tb:List cA}{ls:List Li}(hl:ls.length=tb.length)(k x:Int):mo (KK f tb ls) k x+l9 (KF f tb ls) k x=l9 ls k x:=by
 have key:∀n,n<=tb.length->mo ((List.range n).filterMap λk=>match tb[k]?,ls[k]? with
  | some c,some l=>if(f c l).1=[]then none else some (k,(f c l).1)
  | _,_=>none) k x=if 0<=k/\k<(n:Int)then(match tb[k.toNat]?,ls[k.toNat]? with
  | some c,some l=>(f c l).1.count x
  | _,_=>0)else 0:=by
  intro n
  induction n with
  | zero=>intro _;rw[zB O];rfl
  | succ n i=>
   intro hn;have i:=i O;rw[qQ,xP,EI,i];have d:tb[n]?=some tb[n]:=cW O;have a:ls[n]?=some ls[n]:=cW O;have e:mo ([n].filterMap λk=>match tb[k]?,ls[k]? with
    | some c,some l=>if(f c l).1=[]then none else some (k,(f c l).1)
    | _,_=>none) k x=if(n:Int)=k then(f tb[n] ls[n]).1.count x else 0:=by
    rw[Cp,d,a];simp only;by_cases he:(f tb[n] ls[n]).1=[]
    ·rw[zC he,he];simp[V2]
    ·rw[zB he];simp only[List.filterMap_nil,Vn,V2,kA]
   rw[e];by_cases b:0<=k/\k<(n:Int)
   ·rw[zC b,zB (show ¬(n:Int)=k by omega),kA,zC (show 0<=k/\k<((n+1:Nat):Int)from⟨b.1,O⟩)]
   ·rw[zB b,zH];by_cases g:(n:Int)=k
    ·subst g;rw[zC rfl,zC (show(0:Int)<=(n:Int)/\(n:Int)<((n+1:Nat):Int)from⟨O,O⟩),dH,d,a]
    ·rw[zB g,zB O]
 have b:=key tb.length (zD _);have e:KK f tb ls=(List.range tb.length).filterMap λk=>match tb[k]?,ls[k]? with
  | some c,some l=>if(f c l).1=[]then none else some (k,(f c l).1)
  | _,_=>none:=rfl
 rw[e,b];by_cases hk:0<=k
 ·obtain⟨k,rfl⟩:=zc hk;rw[wG,wG,dH];by_cases hkl:k<tb.length
  ·have d:tb[k]?=some tb[k]:=cW hkl;have a:ls[k]?=some ls[k]:=cW O;rw[zC ⟨O,O⟩,d,a];simp only;have:(KF f tb ls).getD k ir=(f tb[k] ls[k]).2:=by
    unfold KF;rw[zQ,BS,d,a];rfl
   rw[this,zQ,a];exact hf _ _ _
  ·rw[zB O,zH];have b:(KF f tb ls).getD k ir=ir:=by
    unfold KF;rw[zQ,zX (by rw[List.length_zipWith];omega)];rfl
   have g:ls.getD k ir=ir:=by rw[zQ,zX O];rfl
   rw[b,g]
 ·rw[zB O,zH];unfold l9;rw[zB hk,zB hk]
theorem Ec (m:Nat)(l:Li)(x:Int):(gL m l).1.count x+(gL m l).2.os.count x=l.os.count x:=by
 show(l.os.take m).count x+(l.os.drop m).count x=_;rw[←wN,ot]
theorem Pg (c:cA)(l:Li)(x:Int):(Vx c l).1.count x+(Vx c l).2.os.count x=l.os.count x:=Ec _ l x
theorem R8 (c:cA)(l:Li)(x:Int):(Qc c l).1.count x+(Qc c l).2.os.count x=l.os.count x:=Ec _ l x
theorem Mr (c:cA)(y:Int)(l:Li)(hl:l.os.length<=255)(x:Int):(dM c y l).1.count x+(dM c y l).2.os.count x=l.os.count x + [y].count x:=by
 have a:(eO [y] l).os=l.os++[y]:=by
  unfold eO;rw[zB aE]
 unfold dM;rw[zB O];split
 ·rw[a,List.count_nil,zH,wN]
 ·rw[Ec];have:(mG c (eO [y] l)).os=(eO [y] l).os:=by unfold mG;split<;>rfl
  rw[this,a,wN]
theorem FB {c:cA}{l l':Li}{y:Int}(h:KM c l=(some y,l'))(x:Int):l.os.count x=l'.os.count x + [y].count x:=by
 unfold KM at h;split at h
 ·simp at h
 ·rename_i z hz;cases h;have:l.os=l.os.dropLast++[y]:=by
   obtain⟨b,a⟩:=List.getLast?_eq_some_iff.1 hz;rw[a];simp
  conv=>lhs;rw[this]
  rw[wN]
theorem OS {c:cA}{l l':Li}(h:KM c l=(none,l')):l.os=[]/\l'.os=[]:=by
 unfold KM at h;split at h
 ·rename_i hz;have:l.os=[]:=by simpa using hz
  cases h;refine⟨this,?_⟩;split<;>exact this
 ·simp at h
theorem C9 {live:List (Int×Bk)}{x:Int}(b:Bk)(h:bU live x=none)(k y:Int):mE (dA live x b) k y=mE live k y+(if b.2.2.1=k then[x].count y else 0):=by
 have a:live.any (λe=>e.1==x)=false:=by
  rw[my];intro e he hx;unfold bU at h;rw[tf,oJ]at h;exact h e he hx
 unfold dA;rw[a,zB aA];unfold mE;rw[List.countP_append]
 congr 1
 rw[xy,List.countP_nil,zH];by_cases h1:b.2.2.1=k
 ·by_cases h2:x=y
  ·subst h2;simp[h1]
  ·simp[h1,h2]
 ·simp[h1]
theorem A6 {live:List (Int×Bk)}{x:Int}{b:Bk}(h:bU live x=none){e:Int×Bk}:e∈dA live x b↔e∈live\/e=(x,b):=by
 have a:live.any (λe=>e.1==x)=false:=by
  rw[my];intro e he hx;unfold bU at h;rw[tf,oJ]at h;exact h e he hx
 unfold dA;rw[a,zB aA,zM,zN]
theorem yV {live:List (Int×Bk)}{x:Int}{e:Int×Bk}:e∈cN live x↔e∈live/\e.1≠x:=by
 unfold cN;rw[zJ];simp
theorem Cy:∀{live:List (Int×Bk)} {x:Int} {b:Bk},(live.map (·.1)).Nodup->bU live x=some b->∀k y,mE live k y=mE (cN live x) k y+(if b.2.2.1=k then[x].count y else 0)
 | [],x,b,_,h,_,_=>by simp[bU]at h
 | e::l,x,b,hn,h,k,y=>by
  rw[zR,zj]at hn;by_cases he:e.1=x
  ·have hb:e.2=b:=by
    unfold bU at h;rw[List.find?_cons_of_pos (by simpa using he)]at h;simpa using h
   have hd:cN (e::l) x=l:=by
    unfold cN;rw[tM (by simpa using he),qB];intro a ha;have:a.1≠x:=λi=>hn.1 (zE.2 ⟨a,ha,i.trans he.symm⟩);simpa using this
   rw[hd];unfold mE;rw[xy,hb,he]
   congr 1
   by_cases h1:b.2.2.1=k
   ·by_cases h2:x=y
    ·subst h2;simp[h1]
    ·simp[h1,h2]
   ·simp[h1]
  ·have g:bU l x=some b:=by
    unfold bU at h ⊢
    rwa [List.find?_cons_of_neg (by simpa using he)]at h
   have d:=Cy hn.2 g k y;have hd:cN (e::l) x=e::cN l x:=by
    unfold cN;rw[uf (by simpa using he)]
   rw[hd];unfold mE at d ⊢;rw[xy,xy,d];omega
theorem Iw {live:List (Int×Bk)}{e:Int×Bk}(h:e∈live):1<=mE live e.2.2.2.1 e.1:=by
 unfold mE;exact List.countP_pos_iff.2 ⟨e,h,by simp⟩
structure jK (s s':Sp):Prop where
 l:s'.st.length=s.st.length
 z:∀p,gf s'.st p=0↔gf s.st p=0
 w:s'.wd=s.wd
def iw (m:Nat)(g:Th):Prop:=match g.ph with
 | none=>g.bQ=[]
 | some (.take k)=>g.bQ=[]/\k<m
 | some (.cJ k w)=>g.bQ=[]/\k<m/\(g.li k).os=[]/\1<=w/\w<=32
 | some (.cL k w)=>g.bQ=[]/\k<m/\(g.li k).os=[]/\1<=w/\w<=32
 | some (.grow k w)=>g.bQ=[]/\k<m/\(g.li k).os=[]/\1<=w/\w<=32
 | some .fill=>∃k x xs,g.bQ=[(k,x::xs)]/\k<m/\(g.li k).os=[]/\xs.length<=128
 | some (.eP n)=>g.bQ=[]/\1<=n/\n<=64
 | some (.find x)=>g.bQ=[]/\iN x
 | some (.put k x)=>g.bQ=[(k,[x])]/\k<m
 | some .back=>g.bQ≠[]
 | some (.dG _ _)=>g.bQ=[]
 | some .drain=>g.bQ=[]
structure uj (m:Nat) (g:Th):Prop where
 ll:g.ls.length=m
 lo:∀l∈g.ls,fP l/\l.os.length<=128
 hb:∀b∈g.bQ,b.1<m/\b.2≠[]/\b.2.length<=256
 hl:g.bQ.length<=41
 ph:iw m g
def Lv (held:List Pc)(e:Int×Bk):Prop:=e.2.1=e.1/\∃p∈held,p.eT=false/\p.cls=e.2.2.2.1/\(p.addr:Int)=e.1/\e.2.2.1=(p.size:Int)/\e.2.2.2.2=(p.k:Int)
def Gv (held:List Pc)(s a:Int):Prop:=∃p∈held,p.eT=false/\p.cls = -1/\(p.addr:Int)=s*256/\a=(p.k:Int)
structure HI (H:Hw) (held:List Pc) (s0:Sp):Prop where
 wi:WI ⟨H.tb,s0,H.bZ,held⟩
 nj:jK s0 H.sp
 cn:∀k x,r7 H k x=lC held k x
 lk:(H.live.map (·.1)).Nodup
 lv:∀e∈H.live,Lv held e
 gv:∀g∈H.bR,∀s a,g.ph=some (.dG s a)->Gv held s a
 th:∀g∈H.bR,uj H.tb.length g
 ok:∀c∈H.tb,c.ok
 a1:1<=H.bZ.length
 sl:H.sp.st.length=H.cf.aG
variable {H:Hw}{held:List Pc}{s0:Sp}{t k:Nat}{g:Th}{A:AR}
theorem jK.refl (s:Sp):jK s s:=⟨rfl,λ_=>Iff.rfl,rfl⟩
theorem HI.apart (h:HI H held s0){p q:Pc}(hp:p∈held)(hq:q∈held){x:Nat}(p1:p.addr<=x)(p2:x<p.addr+p.size)(q1:q.addr<=x)(q2:x<q.addr+q.size):p=q:=h.wi.apart hp hq p1 p2 q1 q2
theorem WI.same {W:Wd}(h:WI W){p q:Pc}(hp:p∈W.held)(hq:q∈W.held)(e:p.addr=q.addr):p=q:=by
 have a:=(h.size_pos hp).1;have b:=(h.size_pos hq).1;exact h.apart hp hq (x:=p.addr) (zD _) O O O
theorem WI.um {W:Wd}(h:WI W){p:Pc}(hp:p∈W.held){k x:Int}(hu:Um W.held k x)(e:(p.addr:Int)=x):p.eT=false/\p.cls=k:=by
 obtain⟨q,b,a,d,g⟩:=hu;obtain rfl:=h.same hp b O;exact⟨a,d⟩
theorem HI.m7 (h:HI H held s0){e:Int×Bk}(he:e∈H.live):Um held e.2.2.2.1 e.1:=by
 obtain⟨_,p,b,d,g,a,_⟩:=h.lv e he;exact⟨p,b,d,g,a⟩
theorem HI.py (h:HI H held s0){g:Th}(hg:g∈H.bR)(k x:Int):gS g k x<=lC held k x:=by
 rw[←h.cn];unfold r7;have:=BU (λg=>gS g k x) hg;omega
theorem HI.rJ (h:HI H held s0){g:Th}(hg:g∈H.bR){k x:Int}(hc:1<=gS g k x):Um held k x:=Dr (ky hc (h.py hg k x))
theorem HI.mb (h:HI H held s0){g:Th}(hg:g∈H.bR){k x:Int}(hc:1<=gS g k x):bU H.live x=none:=by
 cases hm:bU H.live x with
 | none=>rfl
 | some b=>
  have d:=ZY hm;have u:=h.rJ hg hc;obtain⟨q,r,y,j,m⟩:=h.m7 d;have w:k=b.2.2.1:=by
   have:=(h.wi.um (W:=⟨H.tb,s0,H.bZ,held⟩) r u m).2;exact this.symm.trans j
  have p:=Iw d;have a:=h.cn k x;have s:=ID held k x;have i:=BU (λg=>gS g k x) hg;simp only at p i;unfold r7 at a;rw[w]at a s i hc;omega
theorem HI.u7 (h:HI H held s0){x:Int}(hn:∀k,¬Um held k x):bU H.live x=none:=by
 cases hm:bU H.live x with
 | none=>rfl
 | some b=>exact(hn _ (h.m7 (ZY hm))).elim
theorem HI.eV (h:HI H held s0)(hg:H.bR[t]?=some g){g':Th}{live':List (Int×Bk)}{s0' sp':Sp}{ars':List AR}{held':List Pc}(wi:WI ⟨H.tb,s0',ars',held'⟩)(nj:jK s0' sp')(hsl:sp'.st.length=H.sp.st.length)(hl:ars'.length=H.bZ.length)
 (sub:∀p∈held',p.eT=false->p∈held\/∀k,¬Um held k (p.addr:Int))
 (cn:∀k x,mE live' k x+gS g' k x+lC held k x=mE H.live k x+gS g k x+lC held' k x)
 (lk:(live'.map (·.1)).Nodup) (lv:∀e∈live',e∈H.live\/Lv held' e) (gv:∀s a,g'.ph=some (.dG s a)->Gv held' s a) (th:uj H.tb.length g') :
 HI {H with live:=live',sp:=sp',bZ:=ars',bR:=H.bR.set t g'} held' s0':=by
 have r:∀k x,r7 {H with live:=live',sp:=sp',bZ:=ars',bR:=H.bR.set t g'} k x=lC held' k x:=λk x=>by
  have d:=h.cn k x;have u:=cn k x;have b:=Jj (λg=>gS g k x) g' hg;unfold r7 at d ⊢;simp only at b ⊢;omega
 have G:=(cY.1 hg).1;have bS:∀p∈held,p.eT=false->Um held' p.cls (p.addr:Int)->p∈held':=λp m E ⟨q,A,d,u,b⟩=>by
  rcases sub q A d with hs|hs
  ·have:q=p:=h.wi.same (W:=⟨H.tb,s0,H.bZ,held⟩) hs m O;rw[←this];exact A
  ·exact(hs p.cls ⟨p,m,E,rfl,b.symm⟩).elim
 refine⟨wi,nj,r,lk,λe B=>?_,λw i s a m=>?_,λw i=>?_,h.ok,by simp only;rw[hl];exact h.a1,hsl.trans h.sl⟩
 ·rcases lv e B with he'|he'
  ·obtain⟨D,p,m,d,u,b,z⟩:=h.lv e he';refine⟨D,p,bS p m d ?_,d,u,b,z⟩;rw[u,b];apply Dr;rw[←r];have:1<=mE live' e.2.2.2.1 e.1:=Iw B;unfold r7;simp only;omega
  ·exact he'
 ·rcases List.mem_iff_getElem?.1 i with⟨j,hj⟩;rcases VL hj with⟨rfl,rfl,_⟩|⟨hne,hj'⟩
  ·exact gv s a m
  ·obtain⟨p,y,d,u,b,z⟩:=h.gv w (zG hj') s a m;refine⟨p,bS p y d ?_,d,u,b,z⟩;rw[u,b];apply Dr;rw[←r];have C:=BU (λg=>gS g (-1) (s*256)) i;have F:1<=gS w (-1) (s*256):=by unfold gS;rw[m];simp[jR]
   unfold r7;simp only at C ⊢;omega
 ·rcases List.mem_iff_getElem?.1 i with⟨j,hj⟩;rcases VL hj with⟨rfl,rfl,_⟩|⟨hne,hj'⟩
  ·exact th
  ·exact h.th w (zG hj')
theorem HI.kR (h:HI H held s0)(hg:H.bR[t]?=some g){g':Th}{live':List (Int×Bk)}(cn:∀k x,mE live' k x+gS g' k x=mE H.live k x+gS g k x)(lk:(live'.map (·.1)).Nodup)(lv:∀e∈live',e∈H.live\/Lv held e)
 (gv:∀s a,g'.ph=some (.dG s a)->Gv held s a) (th:uj H.tb.length g'):HI {H with live:=live',bR:=H.bR.set t g'} held s0:=
 h.eV hg h.wi h.nj rfl rfl (λp b _=>.inl b) (λk x=>by have:=cn k x;omega) lk lv gv th
theorem PL {A:AR}{x:Int}:pU A x=true↔0<=x/\A.f x.toNat≠0:=by
 unfold pU AR.f gf;simp
theorem WI.owner {W:Wd}(h:WI W){p:Pc}(hp:p∈W.held){x:Nat}(h1:p.addr<=x)(h2:x<p.addr+p.size):Yh W.bZ (x:Int)=(p.k:Int):=by
 obtain⟨A,b,_⟩:=h.hf p hp;have g:=h.px hp b h1 h2;have a:=(cY.1 b).1;have own:∀(j:Nat) (B:AR),W.bZ[j]?=some B->(pU B ((x:Int)/256)=true↔j=p.k):=λj B d=>by
  have e:((x:Int)/256).toNat=x/256:=by omega
  rw[PL,e];constructor
  ·rintro⟨_,hf⟩;exact h.one (x/256) j p.k B A d b hf O
  ·rintro rfl;rw[b]at d;cases d;exact⟨O,O⟩
 unfold Yh;rw[zB O];have hf:W.bZ.findIdx? (λA=>pU A ((x:Int)/256))=some p.k:=by
  rw[nK];refine⟨a,(own p.k _ (cW a)).2 rfl,λj i=>?_⟩;have:=own j W.bZ[j] (cW O);intro hx;have:=this.1 hx;omega
 rw[hf]
theorem HI.owner (h:HI H held s0){p:Pc}(hp:p∈held){x:Nat}(h1:p.addr<=x)(h2:x<p.addr+p.size):Yh H.bZ (x:Int)=(p.k:Int):=h.wi.owner (W:=⟨H.tb,s0,H.bZ,held⟩) hp h1 h2
theorem HI.pv (h:HI H held s0){p:Pc}(hp:p∈held):Yh H.bZ (p.addr:Int)=(p.k:Int):=h.owner hp (zD _) (by have:=(h.wi.size_pos (W:=⟨H.tb,s0,H.bZ,held⟩) hp).1;omega)
theorem HI.i63 (h:HI H held s0){k x:Int}(hu:Um held k x):iN x/\0<=x/\0<=Yh H.bZ x:=by
 obtain⟨p,a,_,_,rfl⟩:=hu;have:=(h.wi.jV (W:=⟨H.tb,s0,H.bZ,held⟩) a).1;refine⟨by unfold iN;omega,O,?_⟩;rw[h.pv a];omega
end Go.Ar
namespace Go.Ar
open Go.Vc (bU dA cN)
open Go.Bu (ZH)
structure KS (s s':Sp):Prop where
 l:s'.st.length=s.st.length
 k:∀p,gf s.st p≠0->gf s'.st p≠0/\∀w,w/32=p->s'.wd w=s.wd w
theorem KS.refl (s:Sp):KS s s:=⟨rfl,λp a=>⟨a,λ_ _=>rfl⟩⟩
theorem KS.trans {a b c:Sp}(h:KS a b)(k:KS b c):KS a c:=⟨k.l.trans h.l,λp d=>⟨(k.k p (h.k p d).1).1,λw g=>((k.k p (h.k p d).1).2 w g).trans ((h.k p d).2 w g)⟩⟩
variable {s s' sp sp' s0 s0':Sp}{A B:AR}{k:Nat}
theorem jK.mz (h:jK s s'):s'.st.map (λx=>decide (x=0))=s.st.map λx=>decide (x=0):=by
 refine zt λi=>?_;rw[zZ,zZ];have a:=h.z i;unfold gf at a;rw[zQ,zQ]at a;by_cases hi:i<s.st.length
 ·have b:i<s'.st.length:=by rw[h.l];exact hi
  rw[cW hi,cW b]at a ⊢;simp only[qG]at a;simp[a]
 ·have d:=h.l;rw[zX O,zX O]
theorem RN {l l':List Nat}(h:l'.map (λx=>decide (x=0))=l.map λx=>decide (x=0))(a m:Nat)(f:Bool->Bool):((l'.drop a).take m).any (λx=>f (decide (x=0)))=((l.drop a).take m).any λx=>f (decide (x=0)):=by
 have e:∀l:List Nat,((l.drop a).take m).any (λx=>f (decide (x=0)))=(((l.map λx=>decide (x=0)).drop a).take m).any f:=λl=>by
  rw[←List.map_drop,←List.map_take,List.any_map];rfl
 rw[e,e,h]
theorem jK.fF (h:jK s s')(a m:Int):fF s' a m=fF s a m:=by
 unfold Go.Ar.fF;rw[h.l];have:=RN h.mz a.toNat m.toNat (λb=>!b);have e:∀l:List Nat,l.any (λx=>x != 0)=l.any λx=>!decide (x=0):=λl=>by
  refine congrArg l.any (funext λx=>?_);cases x<;>rfl
 rw[e,e,this]
theorem jK.set (h:jK s s'){a m v:Nat}(hl:a+m<=s.st.length):jK (s.set a m v) (s'.set a m v):=by
 refine⟨by simp[Sp.set,Vo,h.l],λp=>?_,?_⟩
 ·show gf (gF s'.st a (a+m) v) p=0↔gf (gF s.st a (a+m) v) p=0;rw[vL (by rw[h.l];exact hl),vL hl];split
  ·exact Iff.rfl
  ·exact h.z p
 ·show(λw=>if a*32<=w/\w<(a+m)*32 then 0 else s'.wd w)=_
  rw[h.w];rfl
theorem RD {n:Nat}{a m:Int}(h:ZH n a m=true):a.toNat+m.toNat<=n:=by
 by_cases h0:0<=a/\0<=m
 ·obtain⟨a,rfl⟩:=zc h0.1;obtain⟨m,rfl⟩:=zc h0.2;rw[dH,dH];exact(UY.1 h).2
 ·exfalso;unfold ZH at h;simp at h;omega
theorem jK.gp (h:jK s s')(a m:Int):jK (gp s a m) (gp s' a m):=by
 unfold Go.Ar.gp;rw[h.fF];split
 ·rename_i h0;refine h.set ?_;unfold Go.Ar.fF at h0;split at h0
  ·rename_i hr;exact RD hr
  ·simp at h0
 ·exact h
theorem JX (s:Sp)(a m:Nat):KS s (gp s (a:Int) (m:Int)):=by
 by_cases h:fF s (a:Int) (m:Int)=0
 ·have u:=CZ h;obtain⟨i,j,r,_⟩:=J8 h;refine⟨i,λp d=>?_⟩;have b:¬(a<=p/\p<a+m):=λg=>d (u.2.2 p g.1 g.2);exact⟨by rw[j,zB b];exact d,λw x=>r w O⟩
 ·unfold gp;rw[zB h];exact KS.refl s
theorem jK.dB (h:jK s s')(size:Nat):dB s' size=dB s size:=by
 unfold Go.Ar.dB;rw[h.l]
 congr 1
 funext x
 rw[h.fF]
theorem jK.dC (h:jK s s')(A:AR)(m a no:Nat):(dC A s' m a no).1=(dC A s m a no).1/\(dC A s' m a no).2.1=(dC A s m a no).2.1/\jK (dC A s m a no).2.2 (dC A s' m a no).2.2/\KS s' (dC A s' m a no).2.2:=by
 unfold Go.Ar.dC;split
 ·exact⟨rfl,rfl,h,KS.refl _⟩
 ·unfold Hk;rw[h.dB];cases hg:Go.Ar.dB s (KB (max m a))with
  | none=>exact⟨rfl,rfl,h,KS.refl _⟩
  | some x=>
   simp only;split
   ·exact⟨rfl,rfl,h.gp _ _,JX _ _ _⟩
   ·exact⟨rfl,rfl,h.gp _ _,JX _ _ _⟩
theorem jK.cQ (h:jK s s')(A:AR)(k:Int):(cQ A s' k).1=(cQ A s k).1/\Vu A s' k=Vu A s k/\jK (cQ A s k).2 (cQ A s' k).2/\KS s' (cQ A s' k).2:=by
 unfold Go.Ar.cQ Vu;split
 ·split
  ·rename_i c ss _ _;obtain⟨b,g,a,d⟩:=h.dC A c.aG 1 (k.toNat+1);cases e1:Go.Ar.dC A s c.aG 1 (k.toNat+1)with
   | mk o1 r1=>cases e2:Go.Ar.dC A s' c.aG 1 (k.toNat+1)with
    | mk o2 r2=>
     obtain⟨m,i⟩:=r1;obtain⟨j,p⟩:=r2;rw[e1,e2]at b g a;rw[e2]at d;simp only at b g a d;subst b;subst g;cases o2<;>exact⟨rfl,rfl,a,d⟩
  ·exact⟨rfl,rfl,h,KS.refl _⟩
 ·exact⟨rfl,rfl,h,KS.refl _⟩
theorem jK.cC (h:jK s s')(A:AR)(m a:Int):(cC A s' m a).1=(cC A s m a).1/\Q6 A s' m a=Q6 A s m a/\QE A s' m a=QE A s m a/\jK (cC A s m a).2 (cC A s' m a).2/\KS s' (cC A s' m a).2:=by
 unfold Go.Ar.cC Q6 QE;split
 ·obtain⟨d,i,b,g⟩:=h.dC A m.toNat a.toNat 41;cases e1:Go.Ar.dC A s m.toNat a.toNat 41 with
  | mk o1 r1=>cases e2:Go.Ar.dC A s' m.toNat a.toNat 41 with
   | mk o2 r2=>
    obtain⟨r,j⟩:=r1;obtain⟨p,u⟩:=r2;rw[e1,e2]at d i b;rw[e2]at g;simp only at d i b g;subst d;subst i;cases o2<;>exact⟨rfl,rfl,rfl,b,g⟩
 ·exact⟨rfl,rfl,rfl,h,KS.refl _⟩
variable {W:Wd}
theorem Oo (h:WI W){cl:Int}{l:List Int}(ho:jt W.held k cl l=true)(c x:Int):Um (W.held.filter λp=>!eI k cl l p) c x↔Um W.held c x/\¬(c=cl/\x∈l):=by
 constructor
 ·rintro⟨p,hp,h1,h2,h3⟩;obtain⟨a,b⟩:=zJ.1 hp;refine⟨⟨p,a,h1,h2,h3⟩,?_⟩;rintro⟨rfl,d⟩;obtain⟨q,m,g⟩:=(Vp.1 ho).1 x d;obtain⟨j,w,s,u⟩:=Vm.1 g;obtain rfl:=h.same (p:=p) (q:=q) a m O;have:eI k c l p=true:=QC.2 ⟨j,h2,by rw[h3];exact d⟩;rw[this]at b;cases b
 ·rintro⟨⟨p,hp,h1,h2,h3⟩,b⟩;refine⟨p,zJ.2 ⟨hp,?_⟩,h1,h2,h3⟩;have:eI k cl l p=false:=nS.2 λd=>by
   obtain⟨_,i,r⟩:=QC.1 d;exact b ⟨h2.symm.trans i,by rw[←h3];exact r⟩
  rw[this];rfl
theorem R9 {held:List Pc}{cl:Int}{l:List Int}(ho:jt held k cl l=true):∀x∈l,Um held cl x:=λx j=>by
 obtain⟨q,i,a⟩:=(Vp.1 ho).1 x j;obtain⟨m,g,b,d⟩:=Vm.1 a;exact⟨q,i,d,g,b⟩
theorem RP (h:WI W){cl:Int}{l:List Int}(ho:jt W.held k cl l=true)(c x:Int):Um (GH W.held k cl l true) c x↔Um W.held c x/\¬(c=cl/\x∈l):=by
 constructor
 ·rintro⟨p,hp,h1,h2,h3⟩;obtain⟨q,b,rfl⟩:=Kj.1 hp;by_cases hof:eI k cl l q=true
  ·rw[zC hof]at h1;cases h1
  ·rw[zB hof]at h1 h2 h3;refine⟨⟨q,b,h1,h2,h3⟩,?_⟩;rintro⟨rfl,hx⟩;obtain⟨r,i,a⟩:=(Vp.1 ho).1 x hx;obtain⟨g,u,m,s⟩:=Vm.1 a;obtain rfl:=h.same b i O;exact hof (QC.2 ⟨g,h2,by rw[h3];exact hx⟩)
 ·rintro⟨⟨p,hp,h1,h2,h3⟩,hn⟩;refine⟨p,Kj.2 ⟨p,hp,?_⟩,h1,h2,h3⟩;rw[zB];intro hx;obtain⟨_,d,j⟩:=QC.1 hx;exact hn ⟨h2.symm.trans d,by rw[←h3];exact j⟩
theorem Rw {held:List Pc}{cl:Int}{l:List Int}:∀p∈GH held k cl l true,p.eT=false->p∈held:=λp b a=>by
 obtain⟨q,d,rfl⟩:=Kj.1 b;by_cases hof:eI k cl l q=true
 ·rw[zC hof]at a;cases a
 ·rw[zB hof];exact d
theorem O7 (h:WI W)(hk:W.bZ[k]?=some A){j:Nat}:(∀x∈YR A (j:Int),∀c,¬Um W.held c x)/\(YR A (j:Int)).Nodup/\(∀c x,Um (GH W.held k j (YR A (j:Int)) false) c x↔Um W.held c x\/(c=j/\x∈YR A (j:Int))) ∧
 (∀p∈GH W.held k j (YR A (j:Int)) false,p.eT=false->p∈W.held\/∀c,¬Um W.held c (p.addr:Int)):=by
 obtain⟨o,e1,e2,C,J,F⟩:=Ia (h.ga k A hk) (j:Int);rw[dH]at e2;have s:∀x∈YR A (j:Int),∃q∈W.held,q.k=k/\q.cls=j/\(q.addr:Int)=x/\q.eT=true:=λx b=>by
  have m:=e2 x b;obtain⟨t,ht,g⟩:=m;have i:j<A.tb.length:=by rw[←(h.ga k A hk).lt];exact(cY.1 ht).1
  obtain⟨c,D,H,u,E⟩:=(h.ga k A hk).cl i;have r:fR A j x:=(VM u).2 ((h.ga k A hk).mw j c D t u ht x g);obtain⟨q,a,q1,q2,q3⟩:=h.ht k A hk j x r;obtain⟨_,_,_,_,z⟩:=h.cls a q2 (by rw[q1];exact hk);exact⟨q,a,q1,q2,q3,z.2 (by rw[q3];exact⟨t,ht,g⟩)⟩
 have new:∀x∈YR A (j:Int),∀c,¬Um W.held c x:=λx b c w=>by
  obtain⟨q,a,_,_,q3,q4⟩:=s x b;have:=(h.um a w q3).1;rw[q4]at this;cases this
 refine⟨new,C,λc x=>⟨?_,?_⟩,λp d G=>?_⟩
 ·rintro⟨p,d,h1,h2,h3⟩;obtain⟨q,a,rfl⟩:=Kj.1 d;by_cases hof:eI k (j:Int) (YR A (j:Int)) q=true
  ·rw[zC hof]at h2 h3;obtain⟨_,B,y⟩:=QC.1 hof;exact .inr ⟨h2.symm.trans B,by rw[←h3];exact y⟩
  ·rw[zB hof]at h1 h2 h3;exact .inl ⟨q,a,h1,h2,h3⟩
 ·rintro(⟨p,d,h1,h2,h3⟩|⟨rfl,b⟩)
  ·refine⟨p,Kj.2 ⟨p,d,?_⟩,h1,h2,h3⟩;split
   ·rw[←h1]
   ·rfl
  ·obtain⟨q,a,q1,q2,q3,q4⟩:=s x b;refine⟨{q with eT:=false},Kj.2 ⟨q,a,?_⟩,rfl,q2,q3⟩;rw[zC (QC.2 ⟨q1,q2,by rw[q3];exact b⟩)]
 ·obtain⟨q,a,rfl⟩:=Kj.1 d;by_cases hof:eI k (j:Int) (YR A (j:Int)) q=true
  ·rw[zC hof];exact .inr (new _ (QC.1 hof).2.2)
  ·rw[zB hof];exact .inl a
theorem CX {tb:List cA}{bZ:List AR}{sp:Sp}{held new:List Pc}(h:WI ⟨tb,sp,bZ,held++new⟩):∀p∈new,∀c,¬Um held c (p.addr:Int):=by
 rintro p b c ⟨q,d,_,_,g⟩;have e:=h.same (p:=p) (q:=q) (oF _ b) (kM _ d) O;have a:=h.hk;simp only[zo]at a;rw[nf]at a;exact a.2.2 q.key (zE.2 ⟨q,d,rfl⟩) p.key (zE.2 ⟨p,b,rfl⟩) (by rw[e])
theorem Er {held new:List Pc}{cl:Int}{l:List Int}(h1:∀p∈new,p.eT=false/\p.cls=cl/\(p.addr:Int)∈l)(h2:∀x∈l,∃p∈new,(p.addr:Int)=x)(c x:Int):Um (held++new) c x↔Um held c x\/(c=cl/\x∈l):=by
 constructor
 ·rintro⟨p,b,a1,a2,a3⟩;rcases zM.1 b with b|b
  ·exact .inl ⟨p,b,a1,a2,a3⟩
  ·obtain⟨_,d,g⟩:=h1 p b;exact .inr ⟨a2.symm.trans d,by rw[←a3];exact g⟩
 ·rintro(⟨p,b,a⟩|⟨rfl,hx⟩)
  ·exact⟨p,kM _ b,a⟩
  ·obtain⟨p,b,e⟩:=h2 x hx;exact⟨p,oF _ b,(h1 p b).1,(h1 p b).2.1,e⟩
theorem Fq {tb:List cA}{bZ:List AR}{sp:Sp}{held new:List Pc}(h:WI ⟨tb,sp,bZ,held++new⟩):∀p∈held++new,p.eT=false->p∈held\/∀c,¬Um held c (p.addr:Int):=λp a _=>by
 rcases zM.1 a with a|a
 ·exact .inl a
 ·exact .inr (CX h p a)
theorem VD {ss:List cH}:∀{i:Nat},ZF ss i=none->∀k,k<i->∀s,ss[k]?=some s->¬s.many<s.tk.length
 | 0,_,k,hk,_,_=>by omega
 | i+1,h,k,hk,s,hs=>by
  unfold ZF at h;by_cases hki:k=i
  ·subst hki;rw[hs]at h;simp only at h;intro hlt;rw[zC hlt]at h;split at h
   ·split at h
    ·split at h<;>cases h
    ·cases h
   ·cases h
  ·cases hi:ss[i]? with
   | none=>
    rw[hi]at h;exact VD h k O s hs
   | some x=>
    rw[hi]at h;simp only at h;split at h
    ·split at h
     ·split at h
      ·split at h<;>cases h
      ·cases h
     ·exact VD (by assumption) k O s hs
    ·exact VD h k O s hs
theorem Tt (h:GA A)(hw:Ow A sp){j:Nat}(hE:Vu A sp (j:Int)=0){w:Nat}(h1:1<=w):YB (cQ A sp (j:Int)).1 (j:Int) (w:Int)≠[]:=by
 rcases Lh h hw (j:Int)with⟨_,hn,_⟩|⟨j',c,ss,x,A1,sp1,hj,hk,hk1,_,e,hst,r1,r2,r3,_,hd,hS⟩
 ·exact(hn hE).elim
 ·obtain rfl:j=j':=by omega
  have a:Cl (cQ A sp (j:Int)).1 j c (iv c ss x):=by
   rw[e];have u:Cl (dT A1 x c.aG (j+1)) j c ss:=hk1;exact Hu u _
  have D:=hS.ga.cG j c _ a;have b:(⟨x,List.replicate c.n false⟩:cH)∈iv c ss x:=VW.2 (.inl rfl);have m:(cQ A sp (j:Int)).1.ck (j:Int)=true:=HE.2 ⟨j,rfl,a.lt⟩;unfold YB Kd VX;rw[m,zC rfl,zB (show ¬((w:Int)<0) by omega),zC rfl,dH,dH,a.1,a.2];simp only;obtain⟨w,rfl⟩:∃v,w=v+1:=⟨w-1,O⟩;cases ho:jc c (iv c ss x)with
  | some r=>
   obtain⟨y,E⟩:=r;rw[GM ho];simp
  | none=>
   exfalso;unfold jc iR at ho;obtain⟨l,z⟩:=zP b;have d:=(cY.1 z).1;have p:(⟨x,List.replicate c.n false⟩:cH).many<(⟨x,List.replicate c.n false⟩:cH).tk.length:=by
    have:=D.ok.tB;simp[cH.many,Ao];omega
   cases hb:ZF (iv c ss x) (iv c ss x).length with
   | none=>exact VD hb l d _ z p
   | some i=>
    rw[hb]at ho;obtain⟨_,s,B,g⟩:=Km hb;obtain⟨r,C,_⟩:=Al g;simp only[B,C]at ho;cases ho
end Go.Ar
namespace Go.Ar
open Go.Vc (bU dA cN)
variable {H:Hw}{held:List Pc}{s0:Sp}{t k:Nat}{g:Th}{A:AR}{c:cA}
theorem QD {p:Ph}{H1:Hw}{g1:Th}{nx:Option Ph}{a e:Int}(ht:t<H.bR.length)(hs:WH H t p=({H1 with bR:=H.bR.set t g1},nx,a,e)):Ke H t p = {H1 with bR:=H.bR.set t {g1 with ph:=nx}}:=by
 unfold Ke;rw[hs];show Hw.eC _ t _=_;rw[ZW (g:=g1) (by simp[ht])];simp only[nO]
structure iG (H:Hw) (t:Nat) (p:Ph):Prop where
 ok:wx H t p
 hi:∃held s0,HI (Ke H t p) held s0
 ks:KS H.sp (Ke H t p).sp
theorem iG.mk' {p:Ph}(hg:H.bR[t]?=some g)(hl:g.bQ.length<=41)(h1:vp H t p){H':Hw}{held':List Pc}{s0':Sp}(e:Ke H t p=H')(h2:HI H' held' s0')(h3:KS H.sp H'.sp):iG H t p:=
 ⟨⟨h1,λb a=>by rw[hg]at a;cases a;omega⟩,⟨held',s0',by rw[e];exact h2⟩,by rw[e];exact h3⟩
def Rq (tb:List cA)(g:Th):Ph->Int->Int->Prop
 | .take k,cl,sz=>cl=k/\∃c,tb[k]?=some c/\sz=c.size
 | .cJ k _,cl,sz=>cl=k/\∃c,tb[k]?=some c/\sz=c.size
 | .cL k _,cl,sz=>cl=k/\∃c,tb[k]?=some c/\sz=c.size
 | .grow k _,cl,sz=>cl=k/\∃c,tb[k]?=some c/\sz=c.size
 | .fill,cl,sz=>∃k xs r c,g.bQ=(k,xs)::r/\cl=k/\tb[k]?=some c/\sz=c.size
 | .eP m,cl,sz=>cl = -1/\sz=((m*256:Nat):Int)
 | _,_,_=>False
def pj (H:Hw)(t:Nat):Ph->Nat
 | .take _=>5
 | .cJ _ _=>4
 | .cL k w=>if YB (H.eL t) (k:Int) (w:Int)=[]then 3 else 1
 | .grow _ _=>2
 | _=>0
def uQ (H:Hw)(t:Nat)(p:Ph)(cl sz:Int):Prop:=
 (∃p' g',(WH H t p).2.1=some p'/\(Ke H t p).live=H.live/\(Ke H t p).bR[t]?=some g'/\Rq H.tb g' p' cl sz/\pj (Ke H t p) t p'<pj H t p) ∨
 ((WH H t p).2.1=none/\(WH H t p).2.2.2≠0/\(WH H t p).2.2.1=0/\(Ke H t p).live=H.live) ∨
 ((WH H t p).2.1=none/\(WH H t p).2.2.2=0/\bU H.live (WH H t p).2.2.1=none/\(Ke H t p).live=dA H.live (WH H t p).2.2.1 ((WH H t p).2.2.1,sz,cl,Yh (Ke H t p).bZ (WH H t p).2.2.1))
theorem HI.mem (h:HI H held s0)(hg:H.bR[t]?=some g):g∈H.bR:=zG hg
theorem HI.j4 (h:HI H held s0)(t:Nat):H.own t<H.bZ.length:=vT _ (by have:=h.a1;omega)
theorem HI.eL (h:HI H held s0)(t:Nat):H.bZ[H.own t]?=some (H.eL t):=by
 have a:=cW (h.j4 t);rw[BC a];exact a
theorem HI.rD (h:HI H held s0):H.tb.length<=40:=by
 have a:=h.eL 0;have:=(h.wi.ga _ _ a).tb;rw[h.wi.tb _ _ a]at this;exact this
theorem HI.cls (h:HI H held s0)(hk:k<H.tb.length):∃c,H.tb[k]?=some c/\c.ok:=⟨H.tb[k],cW hk,h.ok _ (kD hk)⟩
theorem uj.li {m:Nat}(h:uj m g)(hk:k<m):∃l,g.ls[k]?=some l/\g.li k=l/\fP l/\l.os.length<=128:=by
 have a:=cW (l:=g.ls) (i:=k) (by rw[h.ll];exact hk);have:=h.lo _ (kD (by rw[h.ll];exact hk));exact⟨_,a,AW a,this.1,this.2⟩
theorem uj.ik {m:Nat}(h:uj m g){l':Li}(h1:fP l')(h2:l'.os.length<=128):(g.ls.set k l').length=m/\∀l∈g.ls.set k l',fP l/\l.os.length<=128:=by
 refine⟨by rw[oW];exact h.ll,λl a=>?_⟩;rcases Ag a with a|rfl
 ·exact h.lo l a
 ·exact⟨h1,h2⟩
theorem S3 {ls:List Li}{l':Li}{hs:List Bt}{ph:Option Ph}(hk:k<ls.length):(⟨ls.set k l',hs,ph⟩:Th).li k=l':=by
 unfold Th.li;rw[Jt l' k hk,zC rfl]
theorem HI.wE (h:HI H held s0){y:Int}(hu:Um held (k:Int) y)(hc:H.tb[k]?=some c):Lv held (y,(y,(c.size:Int),(k:Int),Yh H.bZ y)):=by
 obtain⟨p,d,j,g,rfl⟩:=hu;obtain⟨A,i,_⟩:=h.wi.hf p d;obtain⟨c',b,m,_⟩:=h.wi.cls d g i;rw[h.wi.tb _ _ i]at b;have a:H.tb[k]?=some c':=b;rw[hc]at a;cases a;exact⟨rfl,p,d,j,g,rfl,by rw[m],by rw[h.pv d]⟩
theorem AU {ls:List Li}{l:Li}(hl:ls[k]?=some l)(l':Li)(k' x:Int):l9 (ls.set k l') k' x+(if(k:Int)=k' then l.os.count x else 0)=l9 ls k' x+(if(k:Int)=k' then l'.os.count x else 0):=by
 have:=Nt l' (cY.1 hl).1 k' x;rw[zQ,hl]at this;exact this
theorem O4 {ls:List Li}{l:Li}(hl:ls[k]?=some l)(x:Int):l9 ls (k:Int) x=l.os.count x:=by
 rw[wG,zQ,hl];rfl
theorem ς (h:HI H held s0)(hg:H.bR[t]?=some g)(hph:g.ph=some (.take k)){cl sz:Int}(hr:Rq H.tb g (.take k) cl sz):iG H t (.take k)/\uQ H t (.take k) cl sz:=by
 have J:=(cY.1 hg).1;have b:=h.th g (h.mem hg);obtain⟨P,u⟩:g.bQ=[]/\k<H.tb.length:=by have:=b.ph;unfold iw at this;rw[hph]at this;exact this
 obtain⟨rfl,c,m,rfl⟩:=hr;have C:=h.ok c (zG m);obtain⟨l,hl,i,L,U⟩:=b.li u;have d:=Fo C L;have j:=G0 hg;cases hT:KM c l with
 | mk o l'=>
  rw[hT]at d;cases o with
  | some y=>
   have p:WH H t (.take k)=({{H with live:=dA H.live y (y,(c.size:Int),(k:Int),Yh H.bZ y)}with bR:=H.bR.set t {g with ls:=g.ls.set k l'}},none,y,0):=by
    simp only[WH,j,UF m,i,hT,V9,ZW hg,Th.ik]
   have e:=QD J p;have B:1<=gS g (k:Int) y:=by
    have:=FB hT y;rw[Ct]at this;unfold gS;rw[O4 hl];omega
   have N:=h.rJ (h.mem hg) B;have K:=h.mb (h.mem hg) B;have A:l'.os.length<=128:=by
    have:l'.os.length<=l.os.length:=by
     unfold KM at hT;split at hT
     ·cases hT
     ·cases hT;simp
    omega
   obtain⟨ll,M⟩:=b.ik (k:=k) d A;have hi:=h.kR hg (g':={g with ls:=g.ls.set k l',ph:=none}) (live':=dA H.live y (y,(c.size:Int),(k:Int),Yh H.bZ y)) (λD x=>by
    rw[C9 _ K];have E:=AU hl l' D x;have V:=FB hT x;unfold gS;rw[hph];simp only[jR];by_cases hkk:(k:Int)=D
    ·simp only[hkk,zT]at E ⊢;omega
    ·simp only[hkk,jX]at E ⊢;omega)
    (Go.Vc.gW h.lk) (λQ z=>by
     rcases(A6 K).1 z with z|rfl
     ·exact .inl z
     ·exact .inr (h.wE N m))
    (λs a G=>by cases G) ⟨ll,M,b.hb,b.hl,by unfold iw;exact P⟩
   refine⟨iG.mk' hg b.hl ⟨u,λS F r=>?_⟩ e hi (KS.refl _),.inr (.inr ?_)⟩
   ·rw[j,i,UF m,hT]at r;cases r;exact(h.i63 N).1
   ·rw[e,p];exact⟨rfl,rfl,K,rfl⟩
  | none=>
   have p:WH H t (.take k)=({H with bR:=H.bR.set t {g with ls:=g.ls.set k l'}},some (.cJ k (qp c l')),0,0):=by
    simp only[WH,j,UF m,i,hT,ZW hg,Th.ik]
   have e:=QD J p;obtain⟨o1,o2⟩:=OS hT;obtain⟨ll,M⟩:=b.ik (k:=k) d (by rw[o2];simp);have w:=d.nC;have R:1<=qp c l'/\qp c l'<=32:=by
    unfold cA.ok at C;unfold qp;simp only at w;omega
   have hi:=h.kR hg (g':={g with ls:=g.ls.set k l',ph:=some (.cJ k (qp c l'))}) (live':=H.live) (λD x=>by
    have E:=AU hl l' D x;rw[o1,o2]at E;unfold gS;rw[hph];simp only[jR];omega) h.lk (λQ z=>.inl z) (λs a G=>by cases G) ⟨ll,M,b.hb,b.hl,by
     unfold iw;exact⟨P,u,by rw[S3 (by rw[b.ll];exact u)];exact o2,R⟩⟩
   refine⟨iG.mk' hg b.hl ⟨u,λS F r=>?_⟩ e hi (KS.refl _),.inl ?_⟩
   ·rw[j,i,UF m,hT]at r;cases r
   ·rw[e,p];exact⟨_,_,rfl,rfl,zO J,⟨rfl,c,m,rfl⟩,by simp[pj]⟩
theorem GZ (h:GA A)(h0:QF A (k:Int)=0)(hc:A.tb[k]?=some c):∃x xs,YR A (k:Int)=x::xs/\xs.length+1=c.batch:=by
 have a:YR A (k:Int)=(match A.cR[k]? with
  | some t=>t.bs.getLast?.getD []
  | none=>[]):=by unfold YR;rw[zC h0,dH];rfl
 unfold QF at h0;rw[dH]at h0;split at h0
 ·split at h0
  ·rename_i t ht;split at h0
   ·cases h0
   ·rename_i hb;rw[ht]at a;simp only at a;have p:t.bs.getLast?=some (t.bs.getLast hb):=List.getLast?_eq_some_getLast hb;rw[p]at a;simp only[qG]at a;have:=h.oR k c t hc ht _ (List.getLast_mem hb);rw[←a]at this;have m:=h.cG;cases hx:YR A (k:Int)with
    | nil=>
     rw[hx]at this;have d:k<A.tb.length:=(cY.1 hc).1;obtain⟨i,j,_,b,_⟩:=h.cl d;have g:i=c:=Option.some.inj (b.1.symm.trans hc);have:=(h.cG k i j b).ok;unfold cA.ok at this;simp at *;subst g;omega
    | cons x xs=>exact⟨x,xs,rfl,by rw[hx]at this;simpa using this⟩
  ·cases h0
 ·cases h0
theorem Pw (h:HI H held s0)(hg:H.bR[t]?=some g){w:Nat}(hph:g.ph=some (.cJ k w)){cl sz:Int}(hr:Rq H.tb g (.cJ k w) cl sz):iG H t (.cJ k w)/\uQ H t (.cJ k w) cl sz:=by
 have D:=(cY.1 hg).1;have d:=h.th g (h.mem hg);obtain⟨G,C,u,P⟩:g.bQ=[]/\k<H.tb.length/\(g.li k).os=[]/\1<=w/\w<=32:=by have:=d.ph;unfold iw at this;rw[hph]at this;exact this
 obtain⟨rfl,c,i,rfl⟩:=hr;have J:=h.ok c (zG i);have z:=J;unfold cA.ok at z;have B:=h.eL t;have ga:=h.wi.ga _ _ B;have p:(H.eL t).tb[k]?=some c:=by rw[h.wi.tb _ _ B];exact i
 have L:vp H t (.cJ k w):=⟨C,λA=>by
  obtain⟨x,m,e,_⟩:=GZ ga A p;rw[e];simp⟩
 by_cases hcase:w=c.batch/\QF (H.eL t) (k:Int)=0
 ·obtain⟨rfl,A⟩:=hcase;obtain⟨x,m,K,M⟩:=GZ ga A p;have r:WH H t (.cJ k c.batch)=({H.cF (H.own t) (Z1 (H.eL t) (k:Int))with bR:=H.bR.set t {g with bQ:=[(k,x::m)]}},some .fill,0,0):=by
   simp only[WH,UF i,zT,A,Kr,K];rw[ZW (g:=g) (by exact hg),G];rfl
  have e:=QD (H1:=H.cF (H.own t) (Z1 (H.eL t) (k:Int))) D r;obtain⟨V,S,W,R⟩:=O7 h.wi B (j:=k);have wi:=h.wi.xg B (k:Int);have hi:=h.eV hg (g':={g with bQ:=[(k,x::m)],ph:=some .fill}) (live':=H.live) wi h.nj rfl (by simp[Wd.put]) R (λU y=>by
   rw[DP S (λy Q=>V y Q _) W,K];unfold gS;rw[hph,G];simp only[jR,Vn,V2];omega) h.lk (λN F=>.inl F) (λs a E=>by cases E) ⟨d.ll,d.lo,λb hb=>by
    simp only[zN]at hb;subst hb;exact⟨C,by simp,by simp;omega⟩,by simp,by
    unfold iw;exact⟨k,x,m,rfl,C,u,O⟩⟩
  refine⟨iG.mk' hg d.hl L e hi (KS.refl _),.inl ?_⟩;rw[e,r];exact⟨_,_,rfl,rfl,zO D,⟨k,x::m,[],c,rfl,rfl,i,rfl⟩,by simp[pj]⟩
 ·have r:WH H t (.cJ k w)=({H with bR:=H.bR.set t g},some (.cL k w),0,0):=by
   have:H.bR.set t g=H.bR:=QQ hg;rw[this];simp only[WH,UF i];split
   ·split
    ·exact(hcase ⟨by assumption,by assumption⟩).elim
    ·rfl
   ·rfl
  have e:=QD D r;have hi:=h.kR hg (g':={g with ph:=some (.cL k w)}) (live':=H.live) (λU x=>by
   unfold gS;rw[hph];simp only[jR]) h.lk (λN F=>.inl F) (λs a E=>by cases E) ⟨d.ll,d.lo,d.hb,d.hl,by
    unfold iw;exact⟨G,C,u,P⟩⟩
  refine⟨iG.mk' hg d.hl L e hi (KS.refl _),.inl ?_⟩;rw[e,r];refine⟨_,_,rfl,rfl,zO D,⟨rfl,c,i,rfl⟩,?_⟩;simp only[pj];split<;>omega
theorem Ol (h:GA A)(j w:Nat):(YB A (j:Int) (w:Int)).length<=w:=by
 unfold YB;split
 ·rename_i h0;have b:A.ck (j:Int)=true:=by
   unfold Kd at h0;split at h0
   ·assumption
   ·cases h0
  obtain⟨i,hi,g⟩:=HE.1 b;obtain⟨c,d,t,a,m⟩:=h.cl g;have:i=j:=by omega
  subst this;unfold VX;rw[dH,dH,a.1,a.2];exact(Gn w (h.cG i c d a)).2.2.1
 ·simp
theorem SM (H:Hw)(t:Nat)(B:AR)(h:H.own t<H.bZ.length)(sp:Sp)(bR:List Th):Hw.eL {H.cF (H.own t) B with sp:=sp,bR:=bR} t=B:=by
 refine BC ?_;have:Hw.own {H.cF (H.own t) B with sp:=sp,bR:=bR} t=H.own t:=by unfold Hw.own Hw.cF;simp
 rw[this];simp[Hw.cF,h]
theorem Tv (h:HI H held s0)(hg:H.bR[t]?=some g){w:Nat}(hph:g.ph=some (.cL k w)){cl sz:Int}(hr:Rq H.tb g (.cL k w) cl sz):iG H t (.cL k w)/\uQ H t (.cL k w) cl sz:=by
 have C:=(cY.1 hg).1;have d:=h.th g (h.mem hg);obtain⟨G,E,u,M⟩:g.bQ=[]/\k<H.tb.length/\(g.li k).os=[]/\1<=w/\w<=32:=by have:=d.ph;unfold iw at this;rw[hph]at this;exact this
 obtain⟨rfl,c,K,rfl⟩:=hr;have J:=h.eL t;have ga:=h.wi.ga _ _ J;have wi:=h.wi.from J (k:Int) (w:Int);have i:=Ol ga k w;have B:=(I9 ga (k:Int) (w:Int)).2.2.1;cases hv:YB (H.eL t) (k:Int) (w:Int)with
 | nil=>
  have r:WH H t (.cL k w)=({H.cF (H.own t) (YT (H.eL t) (k:Int) (w:Int))with bR:=H.bR.set t g},some (.grow k w),0,0):=by
   have:H.bR.set t g=H.bR:=QQ hg;rw[this];simp only[WH,hv,zT,Hw.cF]
  have e:=QD (H1:=H.cF (H.own t) (YT (H.eL t) (k:Int) (w:Int))) C r;rw[hv]at wi;simp only[oL,kE]at wi;have hi:=h.eV hg (g':={g with ph:=some (.grow k w)}) (live':=H.live) wi h.nj rfl (by simp[Wd.put]) (λp j _=>.inl j) (λP y=>by
   unfold gS;rw[hph];simp only[jR]) h.lk (λL F=>.inl F) (λs a j=>by cases j) ⟨d.ll,d.lo,d.hb,d.hl,by
    unfold iw;exact⟨G,E,u,M⟩⟩
  refine⟨iG.mk' hg d.hl trivial e hi (KS.refl _),.inl ?_⟩;rw[e,r];exact⟨_,_,rfl,rfl,zO C,⟨rfl,c,K,rfl⟩,by simp[pj,hv]⟩
 | cons v vs=>
  have r:WH H t (.cL k w)=({H.cF (H.own t) (YT (H.eL t) (k:Int) (w:Int))with bR:=H.bR.set t {g with bQ:=[(k,(v::vs).map λ(x:Nat)=>(x:Int))]}},some .fill,0,0):=by
   simp only[WH,hv,Kr];rw[zB aA,ZW (g:=g) (by exact hg),G];rfl
  have e:=QD (H1:=H.cF (H.own t) (YT (H.eL t) (k:Int) (w:Int))) C r;rw[hv]at wi i B;have m:((v::vs).map λ(x:Nat)=>(x:Int)).Nodup:=List.Pairwise.map (R:=(· ≠ ·)) _ (λa b D e=>D O) B;have app:=Er (held:=held) (new:=(v::vs).map λy=>(⟨H.own t,(k:Int),y,pz H.tb (k:Int),false⟩:Pc)) (cl:=(k:Int)) (l:=(v::vs).map λ(x:Nat)=>(x:Int)) (λp j=>by
   obtain⟨y,A,rfl⟩:=zE.1 j;exact⟨rfl,rfl,zE.2 ⟨y,A,rfl⟩⟩) λx N=>by
   obtain⟨y,A,rfl⟩:=zE.1 N;exact⟨_,zE.2 ⟨y,A,rfl⟩,rfl⟩
  have new:=CX wi;have hi:=h.eV hg (g':={g with bQ:=[(k,(v::vs).map λ(x:Nat)=>(x:Int))],ph:=some .fill}) (live':=H.live) wi h.nj rfl (by simp[Wd.put]) (Fq wi) (λP y=>by
   rw[DP m (λy A=>by
    obtain⟨z,Q,rfl⟩:=zE.1 A;exact new ⟨H.own t,(k:Int),z,pz H.tb (k:Int),false⟩ (zE.2 ⟨z,Q,rfl⟩) _) app]
   unfold gS;rw[hph,G];simp only[jR,Vn,V2];omega) h.lk (λL F=>.inl F) (λs a j=>by cases j) ⟨d.ll,d.lo,λb hb=>by
    simp only[zN]at hb;subst hb;exact⟨E,by simp,by simp at i ⊢;omega⟩,by simp,by
    unfold iw;exact⟨k,(v:Int),vs.map λ(x:Nat)=>(x:Int),rfl,E,u,by simp at i ⊢;omega⟩⟩
  refine⟨iG.mk' hg d.hl trivial e hi (KS.refl _),.inl ?_⟩;rw[e,r];refine⟨_,_,rfl,rfl,zO C,⟨k,_,[],c,rfl,rfl,K,rfl⟩,?_⟩;simp[pj,hv]
theorem Wm5 (h:HI H held s0)(hg:H.bR[t]?=some g){w:Nat}(hph:g.ph=some (.grow k w)){cl sz:Int}(hr:Rq H.tb g (.grow k w) cl sz):iG H t (.grow k w)/\uQ H t (.grow k w) cl sz:=by
 have z:=(cY.1 hg).1;have b:=h.th g (h.mem hg);obtain⟨D,F,x,B⟩:g.bQ=[]/\k<H.tb.length/\(g.li k).os=[]/\1<=w/\w<=32:=by have:=b.ph;unfold iw at this;rw[hph]at this;exact this
 obtain⟨rfl,c,G,rfl⟩:=hr;have u:=h.eL t;have ga:=h.wi.ga _ _ u;obtain⟨e1,e2,C,r⟩:=h.nj.cQ (H.eL t) (k:Int);have wi:=h.wi.grow u (k:Int);by_cases h0:Vu (H.eL t) H.sp (k:Int)=0
 ·have m:WH H t (.grow k w)=({{H.cF (H.own t) (cQ (H.eL t) H.sp (k:Int)).1 with sp:=(cQ (H.eL t) H.sp (k:Int)).2}with bR:=H.bR.set t g},some (.cL k w),0,0):=by
   have:H.bR.set t g=H.bR:=QQ hg;rw[this];simp only[WH,h0,zT,Hw.cF]
  have e:=QD (H1:={H.cF (H.own t) (cQ (H.eL t) H.sp (k:Int)).1 with sp:=(cQ (H.eL t) H.sp (k:Int)).2}) z m;have d:=Tt ga (h.wi.ow _ _ u) (j:=k) (by rw[←e2];exact h0) B.1;rw[show(Wd.mk H.tb s0 H.bZ held).sp=s0 from rfl,←e1]at d;rw[show(Wd.mk H.tb s0 H.bZ held).sp=s0 from rfl,←e1]at wi;have hi:=h.eV hg (g':={g with ph:=some (.cL k w)}) (live':=H.live) wi C r.l (by simp[Wd.put]) (λp i _=>.inl i) (λJ y=>by
   unfold gS;rw[hph];simp only[jR]) h.lk (λE A=>.inl A) (λs a i=>by cases i) ⟨b.ll,b.lo,b.hb,b.hl,by
    unfold iw;exact⟨D,F,x,B⟩⟩
  refine⟨iG.mk' hg b.hl trivial e hi r,.inl ?_⟩;rw[e,m];refine⟨_,_,rfl,rfl,zO z,⟨rfl,c,G,rfl⟩,?_⟩;have:=SM H t (cQ (H.eL t) H.sp (k:Int)).1 (h.j4 t) (cQ (H.eL t) H.sp (k:Int)).2 (H.bR.set t {g with ph:=some (.cL k w)});simp only[pj];rw[this,zB d];omega
 ·have m:WH H t (.grow k w)=({{H.cF (H.own t) (cQ (H.eL t) H.sp (k:Int)).1 with sp:=(cQ (H.eL t) H.sp (k:Int)).2}with bR:=H.bR.set t g},none,0,Vu (H.eL t) H.sp (k:Int)):=by
   have:H.bR.set t g=H.bR:=QQ hg;rw[this];simp only[WH,h0,jX,Hw.cF]
  have e:=QD (H1:={H.cF (H.own t) (cQ (H.eL t) H.sp (k:Int)).1 with sp:=(cQ (H.eL t) H.sp (k:Int)).2}) z m;rw[show(Wd.mk H.tb s0 H.bZ held).sp=s0 from rfl,←e1]at wi;have hi:=h.eV hg (g':={g with ph:=none}) (live':=H.live) wi C r.l (by simp[Wd.put]) (λp i _=>.inl i) (λJ y=>by
   unfold gS;rw[hph];simp only[jR]) h.lk (λE A=>.inl A) (λs a i=>by cases i) ⟨b.ll,b.lo,b.hb,b.hl,by
    unfold iw;exact D⟩
  refine⟨iG.mk' hg b.hl trivial e hi r,.inr (.inl ?_)⟩;rw[e,m];exact⟨rfl,h0,rfl,rfl⟩
theorem φ (h:HI H held s0)(hg:H.bR[t]?=some g)(hph:g.ph=some .fill){cl sz:Int}(hr:Rq H.tb g .fill cl sz):iG H t .fill/\uQ H t .fill cl sz:=by
 have N:=(cY.1 hg).1;have i:=h.th g (h.mem hg);obtain⟨k,x,xs,A,J,d,L⟩:∃k x xs,g.bQ=[(k,x::xs)]/\k<H.tb.length/\(g.li k).os=[]/\xs.length<=128:=by have:=i.ph;unfold iw at this;rw[hph]at this;exact this
 obtain⟨k',V,r,c,z,rfl,K,rfl⟩:=hr;rw[A]at z;obtain⟨j, -⟩:=List.cons.inj z;obtain rfl:k=k':=congrArg Prod.fst j;obtain⟨l,hl,p,D,R⟩:=i.li J;have u:=G0 hg;rw[p]at d;have m:(eO xs.reverse l).os=xs.reverse:=by unfold eO;rw[d,zB aE];simp
 have F:WH H t .fill=({{H with live:=dA H.live x (x,(c.size:Int),(k:Int),Yh H.bZ x)}with bR:=H.bR.set t {ls:=g.ls.set k (eO xs.reverse l),bQ:=[],ph:=g.ph}},none,x,0):=by
  simp only[WH,u,A,UF K,V9,ZW hg,p]
 have e:=QD N F;have w:1<=gS g (k:Int) x:=by
  unfold gS;rw[A,Vn,zC rfl];have:1<=(x::xs).count x:=DG.2 aA;simp only;omega
 have G:=h.rJ (h.mem hg) w;have B:=h.mb (h.mem hg) w;obtain⟨P,S⟩:=i.ik (k:=k) (yF (xs:=xs.reverse) D) (by rw[m];simp;omega);have hi:=h.kR hg (g':={ls:=g.ls.set k (eO xs.reverse l),bQ:=[],ph:=none}) (live':=dA H.live x (x,(c.size:Int),(k:Int),Yh H.bZ x)) (λk' y=>by
  rw[C9 _ B];have E:=AU hl (eO xs.reverse l) k' y;rw[d,m,List.count_reverse,List.count_nil]at E;have W:(x::xs).count y=[x].count y+xs.count y:=wN (l₁:=[x]) (l₂:=xs);unfold gS;rw[hph,A];simp only[jR,Vn,V2];by_cases j:(k:Int)=k'
  ·simp only[j,zT]at E ⊢;omega
  ·simp only[j,jX]at E ⊢;omega)
  (Go.Vc.gW h.lk) (λU C=>by
   rcases(A6 B).1 C with C|rfl
   ·exact .inl C
   ·exact .inr (h.wE G K))
  (λs a M=>by cases M) ⟨P,S,λb Q=>by simp at Q,by simp,by unfold iw;rfl⟩
 refine⟨iG.mk' hg i.hl ⟨k,x,xs,[],by rw[u];exact A,J,(h.i63 G).1,by rw[u,p,d];simp;omega⟩ e hi (KS.refl _),.inr (.inr ?_)⟩;rw[e,F];exact⟨rfl,rfl,B,rfl⟩
theorem OM (h:HI H held s0)(hg:H.bR[t]?=some g){m:Nat}(hph:g.ph=some (.eP m)){cl sz:Int}(hr:Rq H.tb g (.eP m) cl sz):iG H t (.eP m)/\uQ H t (.eP m) cl sz:=by
 have L:=(cY.1 hg).1;have b:=h.th g (h.mem hg);obtain⟨N,U,S⟩:g.bQ=[]/\1<=m/\m<=64:=by have:=b.ph;unfold iw at this;rw[hph]at this;exact this
 obtain⟨rfl,rfl⟩:=hr;have J:=h.eL t;have ga:=h.wi.ga _ _ J;obtain⟨e1,e2,P,M,D⟩:=h.nj.cC (H.eL t) (m:Int) 1;have wi:=h.wi.ye J (m:Int) 1;rw[show(Wd.mk H.tb s0 H.bZ held).sp=s0 from rfl,←e1,←e2,←P]at wi;by_cases h0:Q6 (H.eL t) H.sp (m:Int) 1=0
 ·rw[zC h0]at wi;have j:=CX wi;have A:=Er (held:=held) (new:=[(⟨H.own t, -1,QE (H.eL t) H.sp (m:Int) 1*256,(m:Int).toNat*256,false⟩:Pc)]) (cl:=-1) (l:=[((QE (H.eL t) H.sp (m:Int) 1*256:Nat):Int)]) (λp d=>by
   simp only[zN]at d;subst d;exact⟨rfl,rfl,by simp⟩) λx B=>by
   simp only[zN]at B;subst B;exact⟨_,zN.2 rfl,rfl⟩
  have i:(⟨H.own t, -1,QE (H.eL t) H.sp (m:Int) 1*256,(m:Int).toNat*256,false⟩:Pc)∈held++[(⟨H.own t, -1,QE (H.eL t) H.sp (m:Int) 1*256,(m:Int).toNat*256,false⟩:Pc)]:=by simp
  have G:=wi.size_pos i;have w:=wi.jV i;have E:=wi.owner i (x:=QE (H.eL t) H.sp (m:Int) 1*256) (zD _) (by simp only at G ⊢;omega);generalize C:QE (H.eL t) H.sp (m:Int) 1=V at *;have r:bU H.live ((V*256:Nat):Int)=none:=h.u7 λF R=>j _ (zN.2 rfl) F R;have u:WH H t (.eP m)=({{H.cF (H.own t) (cC (H.eL t) H.sp (m:Int) 1).1 with sp:=(cC (H.eL t) H.sp (m:Int) 1).2,live:=dA H.live ((V*256:Nat):Int) (((V*256:Nat):Int),((m*256:Nat):Int), -1,Yh (H.bZ.set (H.own t) (cC (H.eL t) H.sp (m:Int) 1).1) ((V*256:Nat):Int))}with bR:=H.bR.set t g},none,((V*256:Nat):Int),0):=by
   have:H.bR.set t g=H.bR:=QQ hg;rw[this];simp only[WH,h0,zT,Hw.cF,V9,C]
  have e:=QD (H1:={H.cF (H.own t) (cC (H.eL t) H.sp (m:Int) 1).1 with sp:=(cC (H.eL t) H.sp (m:Int) 1).2,live:=dA H.live ((V*256:Nat):Int) (((V*256:Nat):Int),((m*256:Nat):Int), -1,Yh (H.bZ.set (H.own t) (cC (H.eL t) H.sp (m:Int) 1).1) ((V*256:Nat):Int))}) L u;have hi:=h.eV hg (g':={g with ph:=none}) (live':=dA H.live ((V*256:Nat):Int) (((V*256:Nat):Int),((m*256:Nat):Int), -1,Yh (H.bZ.set (H.own t) (cC (H.eL t) H.sp (m:Int) 1).1) ((V*256:Nat):Int))) wi M D.l (by simp[Wd.put]) (Fq wi) (λF y=>by
   rw[C9 _ r,DP (l:=[((V*256:Nat):Int)]) (cl:=-1) aA (λy K=>by
    simp only[zN]at K;subst K;exact j _ (zN.2 rfl) _) A]
   unfold gS;rw[hph];simp only[jR];omega) (Go.Vc.gW h.lk) (λQ z=>by
    rcases(A6 r).1 z with z|rfl
    ·exact .inl z
    ·refine .inr ⟨rfl,_,i,rfl,rfl,rfl,?_,?_⟩
     ·simp
     ·exact E) (λs a d=>by cases d) ⟨b.ll,b.lo,b.hb,b.hl,by
    unfold iw;exact N⟩
  refine⟨iG.mk' hg b.hl ?_ e hi D,.inr (.inr ?_)⟩
  ·show QE (H.eL t) H.sp (m:Int) 1<=1000000;rw[C];simp only at w;omega
  ·rw[e,u];exact⟨rfl,rfl,r,rfl⟩
 ·rw[zB h0]at wi;have C:QE (H.eL t) H.sp (m:Int) 1=0:=by
   unfold Q6 at h0;unfold QE;split
   ·rename_i d;rw[d,zC rfl]at h0;split at h0
    ·exact(h0 rfl).elim
    ·rename_i hn;cases B:(dC (H.eL t) H.sp (m:Int).toNat (1:Int).toNat 41).1 with
     | none=>rfl
     | some y=>rw[B]at hn;simp at hn
   ·rfl
  have u:WH H t (.eP m)=({{H.cF (H.own t) (cC (H.eL t) H.sp (m:Int) 1).1 with sp:=(cC (H.eL t) H.sp (m:Int) 1).2}with bR:=H.bR.set t g},none,0,Q6 (H.eL t) H.sp (m:Int) 1):=by
   have:H.bR.set t g=H.bR:=QQ hg;rw[this];simp only[WH,h0,jX,Hw.cF]
  have e:=QD (H1:={H.cF (H.own t) (cC (H.eL t) H.sp (m:Int) 1).1 with sp:=(cC (H.eL t) H.sp (m:Int) 1).2}) L u;have hi:=h.eV hg (g':={g with ph:=none}) (live':=H.live) wi M D.l (by simp[Wd.put]) (λp d _=>.inl d) (λF y=>by
   unfold gS;rw[hph];simp only[jR]) h.lk (λQ z=>.inl z) (λs a d=>by cases d) ⟨b.ll,b.lo,b.hb,b.hl,by
    unfold iw;exact N⟩
  refine⟨iG.mk' hg b.hl ?_ e hi D,.inr (.inl ?_)⟩
  ·show QE (H.eL t) H.sp (m:Int) 1<=1000000;rw[C];omega
  ·rw[e,u];exact⟨rfl,h0,rfl,rfl⟩
theorem MZ {W:Wd}(h:WI W)(hk:W.bZ[k]?=some A){j:Nat}{l:List Int}(hl:∀x∈l,∃p∈W.held,l7 k (j:Int) x p=true)(hn:l.Nodup)(hj:j<W.tb.length):Kv A (j:Int) l=0/\WI (W.put k (ZZ A (j:Int) l) W.sp (W.held.filter λp=>!eI k (j:Int) l p)):=by
 have ga:=h.ga k A hk;have g:jt W.held k (j:Int) l=true:=Vp.2 ⟨hl,hn⟩;obtain⟨c,y,_,d,_⟩:=ga.cl (k:=j) (by rw[h.tb k A hk];exact hj);have i:Kv A (j:Int) l=0:=by
  rw[Gw ga d];refine Ez ⟨λx w=>?_,hn⟩;obtain⟨p,m,b⟩:=hl x w;obtain⟨u,s,r,z⟩:=Vm.1 b;obtain⟨_,_,_,a,_⟩:=h.cls m s (by rw[u];exact hk);rw[r]at a;exact(VM d).1 a
 refine⟨i,?_⟩;have:=h.OA hk g;rw[zC i,h.AE g]at this;exact this
theorem JP {xs:List Int}{tb:List cA}{ars0:List AR}(hH:H.tb=tb)(h:WI ⟨tb,s0,H.bZ,held⟩)(hk:k<tb.length)(hxs:∀x∈xs,Um held (k:Int) x)(hn:xs.Nodup)(ha:∀p∈held,Yh ars0 (p.addr:Int)=(p.k:Int)):∀j,j<=H.bZ.length →
 ∃ars',VS H k (Z9 ars0 xs) (List.range j) = {H with bZ:=ars'}/\ars'.length=H.bZ.length/\WI ⟨tb,s0,ars',held.filter λp=>!(decide (p.k<j)&&(p.cls==(k:Int)&&xs.contains (p.addr:Int)))⟩
 | 0,_=>by
  refine⟨H.bZ,rfl,rfl,?_⟩;have:(held.filter λp=>!(decide (p.k<0)&&(p.cls==(k:Int)&&xs.contains (p.addr:Int))))=held:=qB.2 λp _=>by simp
  rw[this];exact h
 | j+1,hj=>by
  obtain⟨ars',e,y,r⟩:=JP hH h hk hxs hn ha j O;rw[VI,e];have s:ars'[j]?=some (ars'[j]' O):=cW _;simp only[s];have b:∀{p:Pc},p∈held->p.k=j->((p.addr:Int)∈Z9 ars0 xs j↔(p.addr:Int)∈xs):=λ{p} d a=>by
   unfold Z9;rw[zJ,ha p d,a];simp
  have g:((held.filter λp=>!(decide (p.k<j)&&(p.cls==(k:Int)&&xs.contains (p.addr:Int)))).filter λp=>!eI j (k:Int) (Z9 ars0 xs j) p)=held.filter λp=>!(decide (p.k<j+1)&&(p.cls==(k:Int)&&xs.contains (p.addr:Int))):=by
   rw[DI];apply wA;intro p d;have e1:eI j (k:Int) (Z9 ars0 xs j) p=(p.k==j&&(p.cls==(k:Int)&&xs.contains (p.addr:Int))):=by
    unfold eI;by_cases a:p.k=j
    ·have:=b d a;have e2:(Z9 ars0 xs j).contains (p.addr:Int)=xs.contains (p.addr:Int):=by
      rw[kW,yS,yS];exact this
     rw[e2]
    ·have:(p.k==j)=false:=by simpa using a
     rw[this];rfl
   rw[e1];have z:decide (p.k<j+1)=(decide (p.k<j)||p.k==j):=by
    rw[kW];simp;omega
   rw[z];cases p.k==j<;>cases decide (p.k<j)<;>cases(p.cls==(k:Int)&&xs.contains (p.addr:Int))<;>rfl
  by_cases d:Z9 ars0 xs j=[]
  ·rw[zC d];refine⟨ars',rfl,y,?_⟩;rw[←g,d];have:∀p:Pc,(!eI j (k:Int) [] p)=true:=λp=>by simp[eI]
   rw[qB.2 λp _=>this p];exact r
  ·rw[zB d];refine⟨ars'.set j (ZZ (ars'[j]' O) (k:Int) (Z9 ars0 xs j)),by simp[Hw.cF],by simp[y],?_⟩;rw[←g];refine(MZ r s (j:=k) (l:=Z9 ars0 xs j) (λx w=>?_) (hn.sublist u6) hk).2;unfold Z9 at w;obtain⟨m,i⟩:=zJ.1 w;obtain⟨p,d,A,B,u⟩:=hxs x m;have a:p.k=j:=by
    have:=ha p d;rw[u]at this;rw[this]at i;have:(p.k:Int)=(j:Int):=by simpa using i
    omega
   exact⟨p,zJ.2 ⟨d,by simp[a]⟩,Vm.2 ⟨a,B,u,A⟩⟩
theorem T9 {tb:List cA}(hH:H.tb=tb)(h:WI ⟨tb,s0,H.bZ,held⟩){own:Nat}(hown:own<H.bZ.length)(hk:k<tb.length){xs:List Int}(hxs:∀x∈xs,Um held (k:Int) x)(hn:xs.Nodup) :
 ∃ars' held',GV H own k xs = {H with bZ:=ars'}/\ars'.length=H.bZ.length/\WI ⟨tb,s0,ars',held'⟩/\(∀c x,Um held' c x↔Um held c x/\¬(c=(k:Int)/\x∈xs))/\∀p∈held',p.eT=false->p∈held:=by
 have r:H.bZ[own]?=some H.bZ[own]:=cW hown;have y:∀p∈held,Yh H.bZ (p.addr:Int)=(p.k:Int):=λp a=>h.owner a (zD _) (by have:=(h.size_pos a).1;omega);have all:∃ars' held',VS H k (Z9 H.bZ xs) (List.range H.bZ.length) = {H with bZ:=ars'}/\ars'.length=H.bZ.length/\WI ⟨tb,s0,ars',held'⟩/\(∀c x,Um held' c x↔Um held c x/\¬(c=(k:Int)/\x∈xs))/\∀p∈held',p.eT=false->p∈held:=by
  obtain⟨ars',e,m,j⟩:=JP hH h hk hxs hn y H.bZ.length (zD _);refine⟨ars',_,e,m,j,λc x=>?_,λp a _=>(zJ.1 a).1⟩;constructor
  ·rintro⟨p,a,g,i,d⟩;obtain⟨a,hf⟩:=zJ.1 a;refine⟨⟨p,a,g,i,d⟩,?_⟩;rintro⟨rfl,b⟩;obtain⟨B,C,_⟩:=h.hf p a;have s:p.k<H.bZ.length:=(cY.1 C).1;rw[i,d]at hf;simp[s,b]at hf
  ·rintro⟨⟨p,a,g,i,d⟩,hno⟩;refine⟨p,zJ.2 ⟨a,?_⟩,g,i,d⟩;rw[i,d];by_cases hc:c=(k:Int)
   ·have:x∉xs:=λb=>hno ⟨hc,b⟩;simp[this]
   ·simp[hc]
 unfold GV;rw[r];simp only;by_cases hcond:(Z9 H.bZ xs own).length=xs.length/\VG H.bZ[own] (k:Int) xs=true
 ·rw[zC hcond];have u:∀x∈xs,Yh H.bZ x=(own:Int):=by
   have g:Z9 H.bZ xs own=xs:=by
    unfold Z9 at hcond ⊢;exact List.filter_sublist.eq_of_length hcond.1
   intro x b;rw[←g]at b;unfold Z9 at b;simpa using(zJ.1 b).2
  have w:jt held own (k:Int) xs=true:=Vp.2 ⟨λx b=>by
   obtain⟨p,a,g,i,d⟩:=hxs x b;have A:=y p a;rw[d,u x b]at A;exact⟨p,a,Vm.2 ⟨O,i,d,g⟩⟩,hn⟩
  have j:=h.OC r w;rw[zC hcond.2]at j;exact⟨_,_,rfl,by simp[Hw.cF],j,RP h w,Rw⟩
 ·rw[zB hcond];have e:(if(Z9 H.bZ xs own).length=xs.length then H.cF own (KG H.bZ[own] (k:Int) xs)else H)=H:=by
   split
   ·rename_i m;have z:VG H.bZ[own] (k:Int) xs=false:=by
     apply nS.2;intro b;exact hcond ⟨m,b⟩
    have:KG H.bZ[own] (k:Int) xs=H.bZ[own]:=by unfold KG;rw[z];rfl
    rw[this];exact F3 r
   ·rfl
  rw[e];exact all
def lK:Ph->Prop
 | .find _=>True
 | .put _ _=>True
 | .back=>True
 | .dG _ _=>True
 | .drain=>True
 | _=>False
def qF (g:Th):Ph->Nat
 | .find _=>101
 | .put _ _=>100
 | .drain=>100
 | .back=>g.bQ.length
 | _=>0
def nE (H:Hw)(t:Nat)(g:Th)(p:Ph):Prop:=(WH H t p).2.2.1=0 ∧
 ((∃p' g',(WH H t p).2.1=some p'/\lK p'/\(∀x,p'≠.find x)/\(Ke H t p).bR[t]?=some g'/\qF g' p'<qF g p)\/(WH H t p).2.1=none) ∧
 ((∀x,p≠.find x)->(WH H t p).2.2.2=0/\(Ke H t p).live=H.live) ∧
 (∀x,p=.find x->(bU H.live x=none->(WH H t p).2.1=none/\(WH H t p).2.2.2≠0/\(Ke H t p).live=H.live)/\(∀b,bU H.live x=some b->(WH H t p).2.2.2=0/\(Ke H t p).live=cN H.live x))
theorem BE (hg:H.bR[t]?=some g):j2 H t=if g.bQ=[]then none else some .back:=by unfold j2;rw[hg]
theorem Sz (h:HI H held s0)(hg:H.bR[t]?=some g){x:Int}(hph:g.ph=some (.find x)):iG H t (.find x)/\nE H t g (.find x):=by
 have E:=(cY.1 hg).1;have d:=h.th g (h.mem hg);obtain⟨N,C⟩:g.bQ=[]/\iN x:=by have:=d.ph;unfold iw at this;rw[hph]at this;exact this
 have S:∀A∈H.bZ,iO A:=λA Q=>by
  obtain⟨j,Z⟩:=zP Q;exact(h.wi.ga j A Z).pN
 cases hm:bU H.live x with
 | none=>
  have w:WH H t (.find x)=({H with bR:=H.bR.set t g},none,0,l4 H x):=by
   have:H.bR.set t g=H.bR:=QQ hg;rw[this];simp only[WH,HC,hm]
  have e:=QD E w;have hi:=h.kR hg (g':={g with ph:=none}) (live':=H.live) (λG x=>by
   unfold gS;rw[hph];simp only[jR]) h.lk (λV F=>.inl F) (λs a M=>by cases M) ⟨d.ll,d.lo,d.hb,d.hl,by
    unfold iw;exact N⟩
  refine⟨iG.mk' hg d.hl ⟨C,λ_=>S,λb hb=>by rw[hm]at hb;cases hb⟩ e hi (KS.refl _),?_⟩;unfold nE;rw[e,w];refine⟨rfl,.inr rfl,λi=>(i x rfl).elim,λy m=>?_⟩;cases m;refine⟨λ_=>⟨rfl,?_,rfl⟩,(λb hb=>by rw[hm]at hb;cases hb)⟩;show l4 H x≠0;unfold l4
  repeat' split
  all_goals simp
 | some b=>
  have R:=ZY hm;obtain⟨_,p,M,h1,U,W,h4,X⟩:=h.lv _ R;simp only at U W h4 X;have P:0<=x:=by omega
  obtain⟨A,Q,hd⟩:=h.wi.hf p M;have Y:vp H t (.find x):=⟨C,(λi=>by rw[hm]at i;cases i),λ_ _=>P⟩;rcases hd with⟨c1,_,r,hr,c2,c3⟩|⟨j,c,c1,c2,c3,_⟩
  ·have J:b.2.2.1 = -1:=by rw[←U,c1]
   have w:WH H t (.find x)=({{H with live:=cN H.live x}with bR:=H.bR.set t g},some (.dG (x/256) b.2.2.2),0,0):=by
    have:H.bR.set t g=H.bR:=QQ hg;rw[this];simp only[WH,HC,hm];rw[zC O]
   have e:=QD (H1:={H with live:=cN H.live x}) E w;have u:x/256*256=x:=by omega
   have hi:=h.kR hg (g':={g with ph:=some (.dG (x/256) b.2.2.2)}) (live':=cN H.live x) (λG y=>by
    have z:=Cy h.lk hm G y;rw[J]at z;unfold gS;rw[hph];simp only[jR,u];by_cases m:x=y
    ·subst m;rw[Ct]at z;by_cases hk : -1=G
     ·rw[zC hk]at z;rw[zC ⟨hk.symm,rfl⟩];omega
     ·rw[zB hk]at z;rw[zB (λC=>hk C.1.symm)];omega
    ·have:[x].count y=0:=yY.2 aE;rw[this]at z;rw[zB (λC=>m C.2.symm)];split at z<;>omega)
    (Go.Vc.jA h.lk) (λV F=>.inl (yV.1 F).1) (λs a B=>by
     cases B;exact⟨p,M,h1,c1,by rw[u];exact W,X⟩) ⟨d.ll,d.lo,d.hb,d.hl,by
      unfold iw;exact N⟩
   refine⟨iG.mk' hg d.hl Y e hi (KS.refl _),?_⟩;unfold nE;rw[e,w];refine⟨rfl,.inl ⟨_,_,rfl,trivial,(λy m=>by cases m),zO E,by simp[qF]⟩,λi=>(i x rfl).elim,λy m=>?_⟩;cases m;exact⟨(λi=>by rw[hm]at i;cases i),λ_ _=>⟨rfl,rfl⟩⟩
  ·have K:b.2.2.1=(j:Int):=by rw[←U,c1]
   have D:j<H.tb.length:=by
    rw[h.wi.tb _ _ Q]at c2;exact(cY.1 c2).1
   have w:WH H t (.find x)=({{H with live:=cN H.live x}with bR:=H.bR.set t {g with bQ:=[(j,[x])]}},some (.put j x),0,0):=by
    simp only[WH,HC,hm];rw[zB O,K,dH];unfold Kr;rw[ZW (g:=g) (by exact hg),N];rfl
   have e:=QD (H1:={H with live:=cN H.live x}) E w;have hi:=h.kR hg (g':={g with bQ:=[(j,[x])],ph:=some (.put j x)}) (live':=cN H.live x) (λG y=>by
    have z:=Cy h.lk hm G y;rw[K]at z;unfold gS;rw[hph,N];simp only[jR,Vn,V2];omega)
    (Go.Vc.jA h.lk) (λV F=>.inl (yV.1 F).1) (λs a B=>by cases B) ⟨d.ll,d.lo,λb' L=>by
     simp only[zN]at L;subst L;exact⟨D,by simp,by simp⟩,by simp,by
     unfold iw;exact⟨rfl,D⟩⟩
   refine⟨iG.mk' hg d.hl Y e hi (KS.refl _),?_⟩;unfold nE;rw[e,w];refine⟨rfl,.inl ⟨_,_,rfl,trivial,(λy m=>by cases m),zO E,by simp[qF]⟩,λi=>(i x rfl).elim,λy m=>?_⟩;cases m;exact⟨(λi=>by rw[hm]at i;cases i),λ_ _=>⟨rfl,rfl⟩⟩
theorem Lq {f:cA->Li->List Int×Li}{tb:List cA}{ls:List Li}{b:Bt}(h:b∈KK f tb ls):b.1<tb.length/\b.2≠[]/\∃c∈tb,∃l∈ls,b.2=(f c l).1:=by
 unfold KK at h;obtain⟨k,d,a⟩:=yx.1 h;split at a
 ·rename_i c l hc hl;split at a
  ·cases a
  ·cases a;exact⟨ze.1 d,by assumption,c,zG hc,l,zG hl,rfl⟩
 ·cases a
theorem FL {f:cA->Li->List Int×Li}{tb:List cA}{ls:List Li}{l':Li}(h:l'∈KF f tb ls):∃c∈tb,∃l∈ls,l'=(f c l).2:=by
 unfold KF at h;obtain⟨i,hi⟩:=zP h;rw[BS]at hi;split at hi
 ·rename_i c l hc hl;cases hi;exact⟨c,zG hc,l,zG hl,rfl⟩
 ·cases hi
theorem Lo {f:cA->Li->List Int×Li}{tb:List cA}{ls:List Li}(h:ls.length=tb.length):(KF f tb ls).length=tb.length:=by
 unfold KF;rw[List.length_zipWith];omega
theorem FM (c:cA)(l:Li):(Vx c l).2.os.length<=l.os.length/\(Vx c l).1.length<=l.os.length:=by
 simp only[Vx,gL,kB,zY];omega
theorem I6 (c:cA)(l:Li):(Qc c l).2.os.length<=l.os.length/\(Qc c l).1.length<=l.os.length:=by
 simp only[Qc,gL,kB,zY];omega
theorem Wj7 (h:HI H held s0)(hg:H.bR[t]?=some g)(hph:g.ph=some .drain):iG H t .drain/\nE H t g .drain:=by
 have p:=(cY.1 hg).1;have d:=h.th g (h.mem hg);have E:g.bQ=[]:=by have:=d.ph;unfold iw at this;rw[hph]at this;exact this
 have F:=h.rD;have D:=By Qc H.tb g.ls;have r:WH H t .drain=({H with bR:=H.bR.set t {g with ls:=KF Qc H.tb g.ls,bQ:=KK Qc H.tb g.ls}},(if KK Qc H.tb g.ls=[]then none else some .back),0,0):=by
  simp only[WH,ZW hg];rw[BE (g:={g with ls:=KF Qc H.tb g.ls,bQ:=KK Qc H.tb g.ls}) (by simp[p])]
 have e:=QD p r;have hi:=h.kR hg (g':={ls:=KF Qc H.tb g.ls,bQ:=KK Qc H.tb g.ls,ph:=if KK Qc H.tb g.ls=[]then none else some .back}) (live':=H.live) (λu x=>by
  have L:=J6 (f:=Qc) R8 d.ll u x;unfold gS;rw[hph,E];have:jR (if KK Qc H.tb g.ls=[]then none else some Ph.back) u x=0:=by split<;>rfl
  simp only[this,V2];simp only[jR];omega) h.lk (λK A=>.inl A) (λs a m=>by
   simp only at m;split at m<;>cases m) ⟨Lo d.ll,λl hl=>by
   obtain⟨c,_,j,i,rfl⟩:=FL hl;have:=d.lo j i;have:=I6 c j;exact⟨θ (d.lo j i).1,O⟩,λb J=>by
   obtain⟨G,C,c,_,j,i,B⟩:=Lq J;have:=d.lo j i;have:=I6 c j;exact⟨G,C,by rw[B];omega⟩,by simp only;omega,by
   unfold iw;by_cases ho:KK Qc H.tb g.ls=[]
   ·rw[zC ho];exact ho
   ·rw[zB ho];exact ho⟩
 refine⟨iG.mk' hg d.hl trivial e hi (KS.refl _),?_⟩;unfold nE;rw[e,r];refine⟨rfl,?_,λ_=>⟨rfl,rfl⟩,λx z=>by cases z⟩;by_cases ho:KK Qc H.tb g.ls=[]
 ·exact .inr (by simp only;rw[zC ho])
 ·exact .inl ⟨.back,_,by simp only;rw[zB ho],trivial,(λy w=>by cases w),zO p,by simp only[qF];omega⟩
theorem TA (h:HI H held s0)(hg:H.bR[t]?=some g){s a:Int}(hph:g.ph=some (.dG s a)):iG H t (.dG s a)/\nE H t g (.dG s a):=by
 have L:=(cY.1 hg).1;have b:=h.th g (h.mem hg);have S:g.bQ=[]:=by have:=b.ph;unfold iw at this;rw[hph]at this;exact this
 obtain⟨p,C,h1,U,X,Y⟩:=h.gv g (h.mem hg) s a hph;obtain⟨A,m,_⟩:=h.wi.hf p C;have z:H.bZ[p.k]?=some A:=m;have R:=(cY.1 z).1;obtain⟨_,r,J,Z,V⟩:=h.wi.run C U m;have ga:=h.wi.ga _ _ m;have d:s=(r.1:Int):=by omega
 have N:VA A s=0:=by
  unfold VA;rw[zC];unfold qC;rw[Bs];exact⟨r,J,by simp[d]⟩
 have F:jt held p.k (-1) [s*256]=true:=by rw[d];exact h.wi.nc m J
 have wi:=h.wi.wZ m s;rw[zC N,h.wi.AE F]at wi;have w:a.toNat=p.k:=by omega
 have G:WH H t (.dG s a)=({H.cF p.k (Kc A s)with bR:=H.bR.set t g},none,0,0):=by
  have:H.bR.set t g=H.bR:=QQ hg;rw[this];simp only[WH,w,z,Hw.cF]
 have e:=QD (H1:=H.cF p.k (Kc A s)) L G;have hi:=h.eV hg (g':={g with ph:=none}) (live':=H.live) wi h.nj rfl (by simp[Wd.put]) (λq E _=>.inl (zJ.1 E).1) (λy x=>by
  have i:=LH (held':=held.filter λD=>!eI p.k (-1) [s*256] D) (l:=[s*256]) (cl:=-1) aA (R9 F) (Oo h.wi F) y x;have i:lC held y x=lC (held.filter λD=>!eI p.k (-1) [s*256] D) y x+(if -1=y then[s*256].count x else 0):=i
  unfold gS;rw[hph];simp only[jR];by_cases hy:s*256=x
  ·subst hy;rw[Ct]at i;by_cases hk : -1=y
   ·rw[zC hk]at i;rw[zC ⟨hk.symm,rfl⟩];omega
   ·rw[zB hk]at i;rw[zB (λu=>hk u.1.symm)];omega
  ·have:[s*256].count x=0:=yY.2 aE;rw[this]at i;rw[zB (λu=>hy u.2.symm)];split at i<;>omega) h.lk (λW P=>.inl P) (λs a C=>by cases C) ⟨b.ll,b.lo,b.hb,b.hl,by
   unfold iw;exact S⟩
 refine⟨iG.mk' hg b.hl ⟨O,O,λB Q q E=>?_⟩ e hi (KS.refl _),?_⟩
 ·obtain⟨j,M⟩:=zP Q;have K:=h.wi.ga j B M;have:=K.fit E;have:=K.pg.n2;omega
 ·unfold nE;rw[e,G];exact⟨rfl,.inr rfl,λ_=>⟨rfl,rfl⟩,λx u=>by cases u⟩
theorem N5 (h:HI H held s0)(hg:H.bR[t]?=some g)(hph:g.ph=some .back):iG H t .back/\nE H t g .back:=by
 have F:=(cY.1 hg).1;have d:=h.th g (h.mem hg);have S:g.bQ≠[]:=by have:=d.ph;unfold iw at this;rw[hph]at this;exact this
 have B:=G0 hg;cases hhd:g.bQ with
 | nil=>exact(S hhd).elim
 | cons b r=>
  obtain⟨k,w⟩:=b;obtain⟨K,A,D⟩:=d.hb (k,w) (by rw[hhd];simp);simp only at K A D;have j:∀x,w.count x<=gS g (k:Int) x:=λx=>by
   unfold gS;rw[hhd,Vn,zC rfl];simp only;omega
  have i:∀x∈w,Um held (k:Int) x:=λx u=>h.rJ (h.mem hg) (ky (DG.2 u) (j x));have C:w.Nodup:=BB.2 λx=>by
   have Q:=j x;have W:=h.py (h.mem hg) (k:Int) x;have V:=ID held (k:Int) x;omega
  obtain⟨m,E,R,G,wi,um,sub⟩:=T9 (H:={H with bR:=H.bR.set t {g with bQ:=r}}) (tb:=H.tb) rfl h.wi (h.j4 t) K i C;have J:WH H t .back=({{H with bZ:=m}with bR:=H.bR.set t {g with bQ:=r}},(if r=[]then none else some .back),0,0):=by
   simp only[WH,B,hhd,ZW hg,R];rw[BE (g:={g with bQ:=r}) (by simp[F])]
  have e:=QD (H1:={H with bZ:=m}) F J;have hi:=h.eV hg (g':={g with bQ:=r,ph:=if r=[]then none else some .back}) (live':=H.live) wi h.nj rfl G (λp z N=>.inl (sub p z N)) (λL x=>by
   have Q:=LH C i um L x;unfold gS;rw[hph,hhd,Vn];have:jR (if r=[]then none else some Ph.back) L x=0:=by split<;>rfl
   simp only[this];simp only[jR];omega) h.lk (λU P=>.inl P) (λs a z=>by
    simp only at z;split at z<;>cases z) ⟨d.ll,d.lo,λb hb=>d.hb b (by rw[hhd];exact lg _ hb),by have:=d.hl;rw[hhd]at this;simp at this ⊢;omega,by
    unfold iw;by_cases ho:r=[]
    ·rw[zC ho];exact ho
    ·rw[zB ho];exact ho⟩
  refine⟨iG.mk' hg d.hl ⟨k,w,r,by rw[B];exact hhd,λx u=>⟨(h.i63 (i x u)).1,(h.i63 (i x u)).2.2⟩,O⟩ e hi (KS.refl _),?_⟩;unfold nE;rw[e,J];refine⟨rfl,?_,λ_=>⟨rfl,rfl⟩,λx u=>by cases u⟩;by_cases ho:r=[]
  ·exact .inr (by simp only;rw[zC ho])
  ·exact .inl ⟨.back,_,by simp only;rw[zB ho],trivial,(λy M=>by cases M),zO F,by simp only[qF];rw[hhd];simp⟩
theorem Mu (h:HI H held s0)(hg:H.bR[t]?=some g){x:Int}(hph:g.ph=some (.put k x)):iG H t (.put k x)/\nE H t g (.put k x):=by
 have B:=(cY.1 hg).1;have r:=h.th g (h.mem hg);obtain⟨L,K⟩:g.bQ=[(k,[x])]/\k<H.tb.length:=by have:=r.ph;unfold iw at this;rw[hph]at this;exact this
 obtain⟨c,hc,G⟩:=h.cls K;obtain⟨l,hl,U,D,hlm⟩:=r.li K;have F:=G0 hg;have h40:=h.rD;have S:=Wm3 (x:=x) G D;have P:=Mr c x l O;have W:(dM c x l).1.length<=129/\(dM c x l).2.os.length<=128:=by
  have hlim:=D.lim;have u:(eO [x] l).os=l.os++[x]:=by unfold eO;rw[zB aE]
  have M:(mG c (eO [x] l)).os=l.os++[x]:=by rw[←u];unfold mG;split<;>rfl
  unfold cA.ok at G;unfold dM;rw[zB O];split
  ·rw[u];simp;omega
  ·simp only[gL,M,zY,kB,zK,s8];omega
 obtain⟨V,lo⟩:=r.ik (k:=k) S W.2;have N:∃hs:List Bt,(if(dM c x l).1=[]then[]else[(k,(dM c x l).1)])=hs:=⟨_,rfl⟩
 obtain⟨i,j⟩:=N;have hs2l:i.length<=1:=by rw[←j];split<;>simp
 have w:∀b∈i,b.1<H.tb.length/\b.2≠[]/\b.2.length<=256:=λb p=>by
  rw[←j]at p;split at p
  ·simp at p
  ·simp only[zN]at p;subst p;exact⟨K,by assumption,by simp only;omega⟩
 have E:∀d y,mo i d y=if(k:Int)=d then(dM c x l).1.count y else 0:=λd y=>by
  rw[←j];split
  ·rename_i hn;rw[hn,V2];simp
  ·simp only[Vn,V2,kA]
 let g3:Th:={g with ls:=g.ls.set k (dM c x l).2,bQ:=i}
 let g4:Th:=if H.cf.dD<KC H.tb g3.ls then{g3 with ls:=KF Vx H.tb g3.ls,bQ:=g3.bQ++KK Vx H.tb g3.ls}else g3
 have Z:iD H t k x = {H with bR:=H.bR.set t g4}:=by
  have e2:(if(dM c x l).1=[]then H.eC t λh=>h.ik k (dM c x l).2 else Kr (H.eC t λh=>h.ik k (dM c x l).2) t k (dM c x l).1) = {H with bR:=H.bR.set t {g with ls:=g.ls.set k (dM c x l).2,bQ:=(k,[x])::i}}:=by
   rw[←j];split
   ·rw[ZW hg,←L];rfl
   ·rw[ZW hg];unfold Kr;rw[ZW (g:=g.ik k (dM c x l).2) (by simp[B])];simp only[nO,Th.ik,L];rfl
  have e3:({H with bR:=H.bR.set t {g with ls:=g.ls.set k (dM c x l).2,bQ:=(k,[x])::i}}:Hw).eC t (λh=>{h with bQ:=h.bQ.drop 1}) = {H with bR:=H.bR.set t g3}:=by
   rw[ZW (g:={g with ls:=g.ls.set k (dM c x l).2,bQ:=(k,[x])::i}) (by simp[B])];simp only[nO,vD,A4];rfl
  have z:({H with bR:=H.bR.set t g3}:Hw).bR[t]?=some g3:=by simp[B]
  unfold iD;simp only[UF hc,F,U,e2,e3,G0 z,ZW z,nO];show(if H.cf.dD<KC H.tb g3.ls then _ else _)=_
  simp only[g4];split<;>rfl
 have hg4:g4.ph=g.ph:=by simp only[g4];split<;>rfl
 have X:∀d y,l9 g4.ls d y+mo g4.bQ d y=l9 g.ls d y+mo g.bQ d y:=λd y=>by
  have Y:=AU hl (dM c x l).2 d y;have h2:=P y;have h3:l9 g3.ls d y+mo g3.bQ d y=l9 g.ls d y+mo g.bQ d y:=by
   simp only[g3];rw[E,L,Vn,V2];by_cases hkk:(k:Int)=d
   ·simp only[hkk,zT]at Y ⊢;omega
   ·simp only[hkk,jX]at Y ⊢;omega
  simp only[g4];split
  ·have h4:=J6 (f:=Vx) Pg (tb:=H.tb) (ls:=g3.ls) V d y;simp only[EI];omega
  ·exact h3
 have m:g4.ls.length=H.tb.length/\(∀l∈g4.ls,fP l/\l.os.length<=128)/\(∀b∈g4.bQ,b.1<H.tb.length/\b.2≠[]/\b.2.length<=256)/\g4.bQ.length<=41:=by
  have hsl:=By Vx H.tb g3.ls;simp only[g4];split
  ·refine⟨Lo V,λl hl=>?_,λb p=>?_,by simp only[zK,g3]at *;omega⟩
   ·obtain⟨J,Q,C,A,rfl⟩:=FL hl;have h5:=lo C A;have:=FM J C;exact⟨F6 (h.ok J Q) h5.1,O⟩
   ·rcases zM.1 p with p|p
    ·exact w b p
    ·obtain⟨b1,b2,J,_,C,A,b3⟩:=Lq p;have h5:=lo C A;have:=FM J C;exact⟨b1,b2,by rw[b3];omega⟩
  ·exact⟨V,lo,w,by simp only[g3];omega⟩
 have hs:WH H t (.put k x)=({H with bR:=H.bR.set t g4},(if g4.bQ=[]then none else some .back),0,0):=by
  show(iD H t k x,j2 (iD H t k x) t,0,0)=_;rw[Z,BE (g:=g4) (by simp[B])]
 have e:=QD B hs;have hi:=h.kR hg (g':={g4 with ph:=if g4.bQ=[]then none else some .back}) (live':=H.live) (λd y=>by
  have Y:=X d y;unfold gS;rw[hph];have:jR (if g4.bQ=[]then none else some Ph.back) d y=0:=by split<;>rfl
  simp only[this];simp only[jR];omega) h.lk (λe' he=>.inl he) (λs a R=>by
   simp only at R;split at R<;>cases R) ⟨m.1,m.2.1,m.2.2.1,m.2.2.2,by
   unfold iw;by_cases ho:g4.bQ=[]
   ·simp only[ho,zT]
   ·simp only[ho,jX];exact ho⟩
 refine⟨iG.mk' hg r.hl ⟨K,by rw[F,L];simp⟩ e hi (KS.refl _),?_⟩;unfold nE;rw[e,hs];refine⟨rfl,?_,λ_=>⟨rfl,rfl⟩,λx hx=>by cases hx⟩;by_cases ho:g4.bQ=[]
 ·exact .inr (by simp only;rw[zC ho])
 ·exact .inl ⟨.back,_,by simp only;rw[zB ho],trivial,(λy hy=>by cases hy),zO B,by simp only[qF];have:=m.2.2.2;omega⟩
end Go.Ar
namespace Go.Ar
open Go Go.Vc Go.Proofs
open Go.Bu (fA VN HD)
variable {U u w w':Hp}{F B P Q:Rg}{L:dE}{H H':Hw}{t n:Nat}{g:Th}
def yE (size:Int):Int:=(size+255)/256*256
def pO (tb:List cA)(size align:Int):Int×Int:=
 if size<=16384/\Hl size align=true then(match gV tb size align with
  | some k=>((tb.getD k ⟨8,1,1⟩).size:Int)
  | none=>yE size,0)else(0,1)
theorem WkA {a:Int}(h1:1<=a)(h2:a<=256):(bits .and .i64 a (a-1) != 0) = !fA a:=by
 obtain⟨a,rfl⟩:=zc (show 0<=a by omega);rw[show(a:Int)-1=((a-1:Nat):Int) by omega,Go.Bu.je O O,VN,←HD O O];simp only[bne,Bool.not_inj_iff];rw[kW];simp only[zU];omega
def QY (sp:Sp)(x:Int):Int:=if eM sp x=0 then sp.wd (x.toNat/8)else 0
theorem BW (h:HH U F L H)(x:Int)(hx:x<=9223372036854775807){R:Int->Int->Hp->Prop}(hR:∀σ',aF U σ'->R (QY H.sp x) (eM H.sp x) σ'):YC.c (aW L.p) x U R:=SI h x hx hR
end Go.Ar
namespace Go.Ar
open Go Go.Vc Go.Proofs
variable {U u w w':Hp}{F B P Q:Rg}{L:dE}{H H':Hw}{t n:Nat}{g:Th}
def Kw (H:Hw)(x:Int):Option Int:=(bU H.live x).map λb=>b.2.1
theorem FA {tb:List cA}{size align:Int}{k:Nat}(h:gV tb size align=some k):k<tb.length:=(List.findIdx?_eq_some_iff_findIdx_eq.1 h).1
theorem EG (h:HH U F L H)(x:Int){R:Int->Int->Hp->Prop}(hR:∀σ',aF U σ'->R ((Kw H x).getD 0) (if(Kw H x).isSome then 0 else 8) σ'):XU.c (aW L.p) x U R:=by
 refine N1 h x λσ' e=>?_;have:=hR σ' e;unfold Kw at this;cases hm:bU H.live x with
 | none=>rw[hm]at this;exact this
 | some b=>rw[hm]at this;exact this
end Go.Ar
namespace Go.Ar
open Go.Vc (bU dA cN)
variable {H H':Hw}{held:List Pc}{s0:Sp}{t k j:Nat}{g:Th}{A:AR}{c:cA}
theorem Vr (f:Th->Th)(hj:j≠t):(H.eC t f).bR[j]?=H.bR[j]? := by
 simp[Hw.eC,tN,Ne.symm hj]
theorem S6 (x:Int)(hj:j≠t):(iD H t k x).bR[j]?=H.bR[j]? := by
 unfold iD Kr;simp only;split<;>split<;>simp only[Vr _ hj]
theorem OG (p:Ph)(hj:j≠t):(WH H t p).1.bR[j]?=H.bR[j]? := by
 cases p with
 | take k=>simp only[WH];split<;>simp only[V9,Vr _ hj]
 | cJ k w=>
  simp only[WH];split
  ·split
   ·unfold Kr;rw[Vr _ hj];rfl
   ·rfl
  ·rfl
 | cL k w=>
  simp only[WH];split
  ·rfl
  ·unfold Kr;rw[Vr _ hj];rfl
 | grow k w=>simp only[WH];split<;>rfl
 | fill=>simp only[WH];split<;>simp only[V9,Vr _ hj]
 | eP m=>simp only[WH];split<;>rfl
 | find x=>
  simp only[WH,HC];split
  ·rfl
  ·split
   ·rfl
   ·unfold Kr;rw[Vr _ hj]
 | put k x=>exact S6 x hj
 | back=>
  simp only[WH];split
  ·rw[CV,Vr _ hj]
  ·rfl
 | dG s a=>simp only[WH];split<;>rfl
 | drain=>simp only[WH,Vr _ hj]
theorem U1 (p:Ph)(hj:j≠t):(Ke H t p).bR[j]?=H.bR[j]? := by
 unfold Ke eY;rw[Vr _ hj,OG p hj]
def fE (H:Hw)(j:Nat):Option Ph:=(H.bR[j]?).bind (·.ph)
def xA (H H':Hw)(t:Nat):Prop:=fE H' t=none/\∀j,j≠t->fE H' j=fE H j
theorem BN (h:HI H held s0)(hg:H.bR[t]?=some g){p:Ph}(hp:g.ph=some p)(hf:¬lK p):∃cl sz,Rq H.tb g p cl sz:=by
 have b:=(h.th g (h.mem hg)).ph;unfold iw at b;rw[hp]at b;cases p with
 | take k=>obtain⟨c,d,_⟩:=h.cls b.2;exact⟨_,_,rfl,c,d,rfl⟩
 | cJ k w=>obtain⟨c,d,_⟩:=h.cls b.2.1;exact⟨_,_,rfl,c,d,rfl⟩
 | cL k w=>obtain⟨c,d,_⟩:=h.cls b.2.1;exact⟨_,_,rfl,c,d,rfl⟩
 | grow k w=>obtain⟨c,d,_⟩:=h.cls b.2.1;exact⟨_,_,rfl,c,d,rfl⟩
 | fill=>
  obtain⟨k,x,r,i,j,_⟩:=b;obtain⟨c,d,_⟩:=h.cls j;exact⟨_,_,k,_,[],c,i,rfl,d,rfl⟩
 | eP m=>exact⟨_,_,rfl,rfl⟩
 | find x=>exact(hf trivial).elim
 | put k x=>exact(hf trivial).elim
 | back=>exact(hf trivial).elim
 | dG s a=>exact(hf trivial).elim
 | drain=>exact(hf trivial).elim
theorem rW (h:HI H held s0)(hg:H.bR[t]?=some g){p:Ph}(hp:g.ph=some p){cl sz:Int}(hr:Rq H.tb g p cl sz):iG H t p/\uQ H t p cl sz:=by
 cases p with
 | take k=>exact ς h hg hp hr
 | cJ k w=>exact Pw h hg hp hr
 | cL k w=>exact Tv h hg hp hr
 | grow k w=>exact Wm5 h hg hp hr
 | fill=>exact φ h hg hp hr
 | eP m=>exact OM h hg hp hr
 | find x=>exact hr.elim
 | put k x=>exact hr.elim
 | back=>exact hr.elim
 | dG s a=>exact hr.elim
 | drain=>exact hr.elim
theorem rU (h:HI H held s0)(hg:H.bR[t]?=some g){p:Ph}(hp:g.ph=some p)(hf:lK p):iG H t p/\nE H t g p:=by
 cases p with
 | take k=>exact hf.elim
 | cJ k w=>exact hf.elim
 | cL k w=>exact hf.elim
 | grow k w=>exact hf.elim
 | fill=>exact hf.elim
 | eP m=>exact hf.elim
 | find x=>exact Sz h hg hp
 | put k x=>exact Mu h hg hp
 | back=>exact N5 h hg hp
 | dG s a=>exact TA h hg hp
 | drain=>exact Wj7 h hg hp
open Classical in
theorem HI.P4 (h:HI H held s0)(hg:H.bR[t]?=some g){p:Ph}(hp:g.ph=some p):iG H t p:=by
 by_cases hf:lK p
 ·exact(rU h hg hp hf).1
 ·obtain⟨cl,b,a⟩:=BN h hg hp hf;exact(rW h hg hp a).1
theorem H7 {p:Ph}(ht:t<H.bR.length):∃g',(Ke H t p).bR[t]?=some g'/\g'.ph=(WH H t p).2.1:=FY ht
theorem Lc {cl sz:Int}:∀(n:Nat) {H:Hw} {held:List Pc} {s0:Sp} {g:Th} {p:Ph},HI H held s0->H.bR[t]?=some g->g.ph=some p->Rq H.tb g p cl sz->pj H t p<=n →
 ∃m H' a e,iI m H t p H' a e/\(∃held s0,HI H' held s0)/\KS H.sp H'.sp/\xA H H' t/\((e≠0/\a=0/\H'.live=H.live)\/(e=0/\bU H.live a=none/\H'.live=dA H.live a (a,sz,cl,Yh H'.bZ a)))
 | n,H,held,s0,g,p,h,hg,hp,hr,hn=>by
  have ht:=(cY.1 hg).1;obtain⟨s,D⟩:=rW h hg hp hr;have d:(WH H t p).2.1=none->xA H (Ke H t p) t:=λE=>by
   obtain⟨C,y,w⟩:=H7 (p:=p) ht;exact⟨by unfold fE;rw[y];exact w.trans E,λj u=>by unfold fE;rw[U1 p u]⟩
  rcases D with⟨p',C,e1,e2,e3,e4,e5⟩|⟨e1,e2,e3,e4⟩|⟨e1,e2,e3,e4⟩
  ·obtain⟨x,B,G⟩:=s.hi;obtain⟨J,i,kr⟩:=H7 (p:=p) ht;rw[e3]at i;cases i;have z:(Ke H t p).tb=H.tb:=(U8 H t p).1;have F:pj (Ke H t p) t p'<n:=by omega
   obtain⟨m,H',a,e,r,hi,ks,A,b⟩:=Lc (pj (Ke H t p) t p') G e3 (kr.trans e1) (by rw[z];exact e4) (zD _);refine⟨m+1,H',a,e,.next s.ok e1 r,hi,s.ks.trans ks,⟨A.1,λj u=>(A.2 j u).trans (by unfold fE;rw[U1 p u])⟩,?_⟩;rw[e2]at b;exact b
  ·exact⟨1,_,_,_,.done s.ok e1,s.hi,s.ks,d e1,.inl ⟨e2,e3,e4⟩⟩
  ·exact⟨1,_,_,_,.done s.ok e1,s.hi,s.ks,d e1,.inr ⟨e2,e3,e4⟩⟩
termination_by n=>n
theorem Fm:∀(n:Nat) {H:Hw} {held:List Pc} {s0:Sp} {g:Th} {p:Ph},HI H held s0->H.bR[t]?=some g->g.ph=some p->lK p->qF g p<=n →
 ∃m H' e,iI m H t p H' 0 e/\(∃held s0,HI H' held s0)/\KS H.sp H'.sp/\xA H H' t/\((∀x,p≠.find x)->e=0/\H'.live=H.live) ∧
  (∀x,p=.find x->(bU H.live x=none->e≠0/\H'.live=H.live)/\(∀b,bU H.live x=some b->e=0/\H'.live=cN H.live x))
 | n,H,held,s0,g,p,h,hg,hp,hf,hn=>by
  have ht:=(cY.1 hg).1;obtain⟨s,M,L,G,a⟩:=rU h hg hp hf;rcases L with⟨p',z,e1,e2,e3,e4,e5⟩|e1
  ·obtain⟨y,K,P⟩:=s.hi;obtain⟨R,i,kr⟩:=H7 (p:=p) ht;rw[e4]at i;cases i;have N:qF z p'<n:=by omega
   obtain⟨m,H',e,r,hi,ks,E,B,_⟩:=Fm (qF z p') P e4 (kr.trans e1) e2 (zD _);obtain⟨J,F⟩:=B e3;refine⟨m+1,H',e,.next s.ok e1 r,hi,s.ks.trans ks,⟨E.1,λj u=>(E.2 j u).trans (by unfold fE;rw[U1 p u])⟩,λd=>⟨J,F.trans (G d).2⟩,λx d=>⟨λD=>?_,λb Q=>⟨J,F.trans ((a x d).2 b Q).2⟩⟩⟩;have:=((a x d).1 D).1;rw[e1]at this;cases this
  ·have C:xA H (Ke H t p) t:=by
    obtain⟨z,A,w⟩:=H7 (p:=p) ht;exact⟨by unfold fE;rw[A];exact w.trans e1,λj u=>by unfold fE;rw[U1 p u]⟩
   have r:=iI.done (H:=H) (t:=t) s.ok e1;rw[M]at r;exact⟨1,_,_,r,s.hi,s.ks,C,G,λx d=>⟨λD=>((a x d).1 D).2,(a x d).2⟩⟩
termination_by n=>n
structure fS (H H':Hw):Prop where
 hi:∃held s0,HI H' held s0
 ks:KS H.sp H'.sp
 kp:Q2 H' H
 ph:∀j,fE H' j=fE H j
theorem fS.refl (h:HI H held s0):fS H H:=⟨⟨held,s0,h⟩,KS.refl _,Q2.refl _,λ_=>rfl⟩
theorem fS.trans {H1 H2 H3:Hw}(a:fS H1 H2)(b:fS H2 H3):fS H1 H3:=⟨b.hi,a.ks.trans b.ks,a.kp.trans b.kp,λj=>(b.ph j).trans (a.ph j)⟩
theorem JW {tb:List cA}{kind size align addr:Int}{p:Ph}(h:iS tb kind size align addr=some p)(hx:iN addr)(hh:g.bQ=[]):iw tb.length {g with ph:=some p}:=by
 unfold iS at h;split at h
 ·split at h
  ·split at h
   ·split at h
    ·rename_i k hk;cases h;exact⟨hh,FA hk⟩
    ·cases h;exact⟨hh,O,O⟩
   ·cases h
  ·cases h
 ·split at h
  ·cases h;exact⟨hh,hx⟩
  ·split at h
   ·cases h;exact hh
   ·cases h
theorem HI.eY (h:HI H held s0)(hg:H.bR[t]?=some g)(hn:g.ph=none){p:Ph}(hp:iw H.tb.length {g with ph:=some p})(hq:∀s a,p≠.dG s a):HI (eY H t (some p)) held s0:=by
 have b:=h.th g (h.mem hg);have e:Go.Ar.eY H t (some p) = {H with bR:=H.bR.set t {g with ph:=some p}}:=ZW hg _;rw[e];refine h.kR hg (live':=H.live) (λi x=>?_) h.lk (λj d=>.inl d) (λs a hp=>by cases hp;exact(hq s a rfl).elim) ⟨b.ll,b.lo,b.hb,b.hl,hp⟩;unfold gS;rw[hn];have:jR (some p) i x=0:=by
  cases p<;>first|rfl|exact(hq _ _ rfl).elim
 simp only[this];simp only[jR]
theorem LM (h:HI H held s0)(hg:H.bR[t]?=some g)(hn:g.ph=none):g.bQ=[]:=by
 have:=(h.th g (h.mem hg)).ph;unfold iw at this;rw[hn]at this;exact this
theorem G2 (H:Hw)(thread kind size align addr:Int):(∃e,Vb H thread kind size align addr=.inl e/\e≠0)\/∃(t:Nat) (p:Ph) (g:Th),thread=(t:Int)/\H.bR[t]?=some g/\g.ph=none/\iS H.tb kind size align addr=some p/\Vb H thread kind size align addr=.inr (t,p):=by
 unfold Vb;split
 ·split
  ·split
   ·split
    ·rename_i hth _ g hg hn _ p hp;exact .inr ⟨thread.toNat,p,g,O,hg,hn,hp,rfl⟩
    ·exact .inl ⟨1,rfl,by decide⟩
   ·exact .inl ⟨5,rfl,by decide⟩
  ·exact .inl ⟨1,rfl,by decide⟩
 ·exact .inl ⟨1,rfl,by decide⟩
theorem ω (hg:H.bR[t]?=some g)(p:Option Ph)(hj:j≠t):fE (eY H t p) j=fE H j:=by
 unfold fE eY;rw[Vr _ hj]
theorem Ir (hg:H.bR[t]?=some g)(hn:g.ph=none){p:Ph}(ps:xA (eY H t (some p)) H' t):∀j,fE H' j=fE H j:=λj=>by
 by_cases hj:j=t
 ·subst hj;rw[ps.1];unfold fE;rw[hg];exact hn.symm
 ·rw[ps.2 j hj,ω hg _ hj]
def rG (H:Hw)(size align:Int)(H':Hw)(a e:Int):Prop:=(e≠0/\a=0/\H'.live=H.live) ∨
 (e=0/\bU H.live a=none/\(1<=size/\size<=16384/\Hl size align=true)/\∃cl,H'.live=dA H.live a (a,(pO H.tb size align).1,cl,Yh H'.bZ a)/\((∃k:Nat,cl=k/\gV H.tb size align=some k)\/cl = -1/\gV H.tb size align=none))
theorem π (h:HI H held s0)(thread size align:Int):∃H' a e,KN H thread 0 size align 0 H' a e/\fS H H'/\rG H size align H' a e:=by
 rcases G2 H thread 0 size align 0 with⟨e,hs,hne⟩|⟨t,p,g,rfl,hg,hn,hq,hs⟩
 ·exact⟨H,0,e,.inl ⟨hs,hne,rfl,rfl⟩,fS.refl h,.inl ⟨hne,rfl,rfl⟩⟩
 ·have D:=LM h hg hn;have w:=JW (g:=g) hq (by unfold iN;decide) D;unfold iS at hq;rw[zC rfl]at hq;split at hq
  ·rename_i hsz;split at hq
   ·rename_i hok;have b:pO H.tb size align=(match gV H.tb size align with
     | some k=>((H.tb.getD k ⟨8,1,1⟩).size:Int)
     | none=>yE size,0):=by
     unfold pO;rw[zC ⟨hsz.2,hok⟩]
     first|done | (cases gV H.tb size align<;>rfl)
    obtain⟨cl,d,y⟩:∃cl,Rq H.tb {g with ph:=some p} p cl (pO H.tb size align).1/\((∃k:Nat,cl=k/\gV H.tb size align=some k)\/cl = -1/\gV H.tb size align=none):=by
     cases hcv:gV H.tb size align with
     | some k=>
      rw[hcv]at hq b;cases hq;have j:=FA hcv;have z:H.tb[k]?=some H.tb[k]:=cW j;refine⟨k,⟨rfl,H.tb[k],z,?_⟩,.inl ⟨k,rfl,rfl⟩⟩;rw[b];simp only;rw[zQ,z];rfl
     | none=>
      rw[hcv]at hq b;cases hq;refine⟨-1,⟨rfl,?_⟩,.inr ⟨rfl,rfl⟩⟩;rw[b];simp only;unfold yE;omega
    have u:∀s a,p≠.dG s a:=λs a e=>by subst e;exact d.elim
    have B:=h.eY hg hn w u;have x:(Go.Ar.eY H t (some p)).bR[t]?=some {g with ph:=some p}:=by
     have C:=(cY.1 hg).1;have e:Go.Ar.eY H t (some p) = {H with bR:=H.bR.set t {g with ph:=some p}}:=ZW hg _;rw[e];simp[C]
    obtain⟨m,H',a,e,r,hi,ks,A,i⟩:=Lc _ B x rfl d (zD _);refine⟨H',a,e,.inr ⟨t,p,m,hs,r⟩,⟨hi,ks,(Vz _ _ _).trans (IG r),Ir hg hn A⟩,?_⟩;rcases i with⟨r1,r2,r3⟩|⟨r1,r2,r3⟩
    ·exact .inl ⟨r1,r2,r3⟩
    ·exact .inr ⟨r1,r2,⟨hsz.1,hsz.2,hok⟩,cl,r3,y⟩
   ·cases hq
  ·cases hq
def nU (H:Hw)(thread addr:Int)(H':Hw)(e:Int):Prop:=
 (e≠0/\H'=H/\Vb H thread 1 0 0 addr=.inl e)\/((∃p,Vb H thread 1 0 0 addr=.inr p)/\bU H.live addr=none/\e≠0/\H'.live=H.live)\/((∃p,Vb H thread 1 0 0 addr=.inr p)/\∃b,bU H.live addr=some b/\e=0/\H'.live=cN H.live addr)
theorem MK (h:HI H held s0)(hg:H.bR[t]?=some g)(hn:g.ph=none){p:Ph}(hp:iw H.tb.length {g with ph:=some p})(hf:lK p)(hq:∀s a,p≠.dG s a):∃m H' e,iI m (eY H t (some p)) t p H' 0 e/\fS H H'/\((∀x,p≠.find x)->e=0/\H'.live=H.live) ∧
 (∀x,p=.find x->(bU H.live x=none->e≠0/\H'.live=H.live)/\(∀b,bU H.live x=some b->e=0/\H'.live=cN H.live x)):=by
 have i:=h.eY hg hn hp hq;have d:(Go.Ar.eY H t (some p)).bR[t]?=some {g with ph:=some p}:=by
  have j:=(cY.1 hg).1;have e:Go.Ar.eY H t (some p) = {H with bR:=H.bR.set t {g with ph:=some p}}:=ZW hg _;rw[e];simp[j]
 obtain⟨m,H',e,r,hi,ks,w,u,y⟩:=Fm _ i d rfl hf (zD _);exact⟨m,H',e,r,⟨hi,ks,(Vz _ _ _).trans (IG r),Ir hg hn w⟩,u,y⟩
theorem WgH (h:HI H held s0)(thread addr:Int)(hx:iN addr):∃H' e,KN H thread 1 0 0 addr H' 0 e/\fS H H'/\nU H thread addr H' e:=by
 rcases G2 H thread 1 0 0 addr with⟨e,hs,hne⟩|⟨t,p,g,rfl,hg,hn,hq,hs⟩
 ·exact⟨H,e,.inl ⟨hs,hne,rfl,rfl⟩,fS.refl h,.inl ⟨hne,rfl,hs⟩⟩
 ·have d:=JW (g:=g) hq hx (LM h hg hn);have j:p=.find addr:=by unfold iS at hq;simp at hq;exact hq.symm
  subst j;obtain⟨m,H',e,r,op,_,i⟩:=MK h hg hn d trivial (λs a e=>by cases e);refine⟨H',e,.inr ⟨t,_,m,hs,r⟩,op,?_⟩;cases hm:bU H.live addr with
  | none=>exact .inr (.inl ⟨⟨_,hs⟩,hm,(i addr rfl).1 hm⟩)
  | some b=>exact .inr (.inr ⟨⟨_,hs⟩,b,hm,(i addr rfl).2 b hm⟩)
end Go.Ar
namespace Go.Ar
open Go Go.Vc Go.Proofs
variable {U u w w':Hp}{F B P Q:Rg}{L:dE}{H H':Hw}{t n k:Nat}{A:AR}{Y:Lay}
theorem Fr.refl (A:AR):Fr A A:=⟨rfl,rfl,rfl⟩
theorem Fr.trans {A B C:AR}(h:Fr B A)(k:Fr C B):Fr C A:=⟨k.1.trans h.1,k.2.1.trans h.2.1,k.2.2.trans h.2.2⟩
end Go.Ar
namespace Go.Ar
variable {A:AR}
def r9 (tb:List cA)(n room m:Nat):Wd:=⟨tb,V6 n,List.replicate m (fG n room tb),[]⟩
theorem OK {n room:Nat}{tb:List cA}(h1:32<=n)(h2:n<=1024)(h3:n%16=0)(h6:tb.length<=40)(h7:∀c∈tb,c.ok):GA (fG n room tb)/\∀p,(fG n room tb).f p=0:=by
 have i:∀p,(fG n room tb).f p=0:=λp=>by
  show(List.replicate n 0).getD p 0=0;rw[zQ,mI];split<;>rfl
 have a:∀{k:Nat} {g:List cH},(List.replicate tb.length ([]:List cH))[k]?=some g->g=[]:=λh=>by
  rw[mI]at h;split at h<;>simp at h;exact h
 have b:∀{k:Nat} {t:gR},(List.replicate tb.length (⟨0,[]⟩:gR))[k]?=some t->t.bs=[]:=λh=>by
  rw[mI]at h;split at h<;>simp at h;rw[←h]
 refine⟨⟨⟨by simp[fG],h1,h2,h3,λp=>by rw[i];omega,λp=>by rw[i];simp[fG],λp=>by rw[i];simp[fG,Go.Bu.iB],λp=>by rw[i,i]⟩,h6,by simp[fG],by simp[fG],λk c g d=>?_,λk c g d s m=>?_,λk c g d p=>?_,λp=>?_,λp=>.inr (Nat.zero_le _),by simp[fG],by simp[fG],λk t j=>?_,λk c g t d j=>?_,λk c t d j=>?_⟩,i⟩
 ·have e:=a d.2;subst e;exact⟨h7 c (zG d.1),by simp,by simp⟩
 ·have e:=a d.2;subst e;simp at m
 ·have e:=a d.2;subst e;constructor
  ·intro h;cases h
  ·rintro⟨s,m,_⟩;simp at m
 ·constructor
  ·intro h;cases h
  ·rintro⟨r,hr,_⟩;simp[fG]at hr
 ·have:=b j;rw[this];exact uz
 ·have:=b j;rw[this];simp
 ·have:=b j;rw[this];simp
theorem Ri {tb:List cA}{n room m:Nat}(h1:32<=n)(h2:n<=1024)(h3:n%16=0)(h6:tb.length<=40)(h7:∀c∈tb,c.ok):WI (r9 tb n room m):=by
 obtain⟨u,d⟩:=OK (room:=room) h1 h2 h3 h6 h7;have get:∀{k:Nat} {A:AR},(r9 tb n room m).bZ[k]?=some A->A=fG n room tb:=λ{k A} h=>by
  have h:(List.replicate m (fG n room tb))[k]?=some A:=h;rw[mI]at h;split at h<;>simp at h;exact h.symm
 have b:∀p,gf (V6 n).st p=0:=λp=>by
  show(List.replicate n 0).getD p 0=0;rw[zQ,mI];split<;>rfl
 refine⟨λk A h=>by rw[get h];exact u,λk A h=>?_,λk A h=>by rw[get h];rfl,λk A h p a=>by rw[get h];exact d p,λp a=>(a (b p)).elim,λp k l A B C H h1 h2=>?_,uz,λp a=>by simp[r9]at a,λk A h j y x=>?_,λk A h r w=>?_⟩
 ·rw[get h];exact⟨by simp[r9,V6,fG],λp a=>(a (d p)).elim,λp a=>by rw[d p]at a;omega,λp=>by show gf (V6 n).st p<=2;rw[b];omega⟩
 ·rw[get C]at h1;exact(h1 (d p)).elim
 ·rw[get h]at x;obtain⟨c,E,z,F⟩:=x;have g:E=[]:=by
   have h2:=z.2;simp only[fG]at h2;rw[mI]at h2;split at h2<;>simp at h2;exact h2
  subst g;obtain⟨G,s,i,D,_⟩:=(Uk (u.cG _ _ _ z)).1 F;simp at D
 ·rw[get h]at w;simp[fG]at w
end Go.Ar
namespace Go.Ar
open Go.Vc (bU dA cN)
variable {H H':Hw}{held:List Pc}{s0:Sp}{t k j:Nat}{g:Th}{A:AR}{c:cA}
theorem Rb {tb:List cA}{cf:Cf}(h1:32<=cf.aG)(h2:cf.aG<=1024)(h3:cf.aG%16=0)(h4:1<=cf.ic)(h6:tb.length<=40)(h7:∀c∈tb,c.ok):HI (Uw tb cf) [] (V6 cf.aG):=by
 have z:=Ri (tb:=tb) (n:=cf.aG) (room:=cf.room) (m:=cf.ic) h1 h2 h3 h6 h7;have d:∀g∈(Uw tb cf).bR,g=⟨List.replicate tb.length ir,[],none⟩:=λg i=>(AG.1 i).2;have r:∀k,(List.replicate tb.length ir).getD k ir=ir:=λk=>by
  rw[zQ,mI];split<;>rfl
 refine⟨z,jK.refl _,λk x=>?_,uz,λe y=>by simp[Uw]at y,λg i s a j=>?_,λg i=>?_,h7,?_,?_⟩
 ·have B:∀(n:Nat) (f:Th->Nat) (g:Th),f g=0->((List.replicate n g).map f).sum=0:=λn f g h=>by
   rw[vY,h]
   induction n with
   | zero=>rfl
   | succ n ih=>rw[tx,ox,ih]
  have w:gS ⟨List.replicate tb.length ir,[],none⟩ k x=0:=by
   unfold gS l9;split
   ·simp only[r];rfl
   ·rfl
  have:r7 (Uw tb cf) k x=0:=by
   unfold r7;show mE [] k x+((List.replicate cf.threads (⟨List.replicate tb.length ir,[],none⟩:Th)).map λg=>gS g k x).sum=0;rw[B _ _ _ w];rfl
  rw[this,KZ];rintro⟨p,j,_⟩;simp at j
 ·rw[d g i]at j;cases j
 ·rw[d g i];refine⟨by simp[Uw],λl u=>?_,λb A=>by simp at A,by simp,by unfold iw;rfl⟩;rw[(AG.1 u).2];exact⟨fP.nil,by simp[ir]⟩
 ·show 1<=(List.replicate cf.ic (fG cf.aG cf.room tb)).length;simpa using h4
 ·show(List.replicate cf.aG 0).length=cf.aG;simp
def KL (H H':Hw):Prop:=∀e∈H.live,∀w:Nat,e.1<=((8*w:Nat):Int)->((8*w:Nat):Int)<e.1+e.2.2.1->H'.sp.wd w=H.sp.wd w
theorem HI.Aq (h:HI H held s0):WI ⟨H.tb,s0,H.bZ,held⟩:=h.wi
theorem HI.mapped (h:HI H held s0){p:Pc}(hp:p∈held){x:Nat}(h1:p.addr<=x)(h2:x<p.addr+p.size):gf H.sp.st (x/256)≠0:=by
 obtain⟨A,a,_⟩:=h.wi.hf p hp;have e1:=h.wi.px hp a h1 h2;have:=(h.wi.ow _ A a).own (x/256) O;intro hz;exact this ((h.nj.z _).1 hz)
theorem HI.kl (h:HI H held s0)(k:KS H.sp H'.sp):KL H H':=λe d w g i=>by
 obtain⟨_,p,a,_,_,j,m,_⟩:=h.lv e d;have b:=h.mapped a (x:=8*w) O O;exact(k.k _ b).2 w O
theorem KL.refl (H:Hw):KL H H:=λ_ _ _ _ _=>rfl
theorem KL.trans {H1 H2 H3:Hw}(a:KL H1 H2)(b:KL H2 H3)(hl:∀e∈H1.live,e∈H2.live):KL H1 H3:=λe d w g i=>(b e (hl e d) w g i).trans (a e d w g i)
structure m5 (H H':Hw):Prop where
 hi:∃held s0,HI H' held s0
 live:H'.live=H.live
 bR:H'.bR=H.bR
 kp:Q2 H' H
 kl:KL H H'
theorem m5.refl (h:HI H held s0):m5 H H:=⟨⟨_,_,h⟩,rfl,rfl,Q2.refl _,KL.refl _⟩
theorem m5.trans {H1 H2 H3:Hw}(a:m5 H1 H2)(b:m5 H2 H3):m5 H1 H3:=⟨b.hi,b.live.trans a.live,b.bR.trans a.bR,a.kp.trans b.kp,a.kl.trans b.kl λe d=>by rw[a.live];exact d⟩
theorem HI.n (h:HI H held s0)(hk:H.bZ[k]?=some A):A.n=H.cf.aG:=by
 have:=(h.wi.ow k A hk).l;have b:=h.nj.l;have a:=h.sl;simp only at this;omega
theorem WI.wd {W:Wd}(h:WI W)(f:Nat->Int):WI {W with sp:={W.sp with wd:=f}}:=
 ⟨h.ga,λk A hk=>⟨(h.ow k A hk).l,(h.ow k A hk).own,(h.ow k A hk).cl,(h.ow k A hk).le⟩,h.tb,h.low,h.own,h.one,h.hk,h.hf,h.ht,h.hr⟩
theorem J0 {sp:Sp}{x:Int}(h:eM sp x=0):0<=x/\x%8=0/\gf sp.st (x.toNat/256)≠0:=by
 unfold eM at h;split at h
 ·cases h
 ·split at h
  ·cases h
  ·exact⟨O,O,by assumption⟩
theorem Eg (sp:Sp)(x v:Int):(Zm sp x v).st.length=sp.st.length/\(∀p,gf (Zm sp x v).st p=0↔gf sp.st p=0)/\∀w,(Zm sp x v).wd w=if eM sp x=0/\w=x.toNat/8 then v else sp.wd w:=by
 unfold Zm;split
 ·rename_i h0;have a:=J0 h0;refine⟨by simp[nZ],λp=>?_,λw=>?_⟩
  ·show gf (sp.st.set (x.toNat/8/32) 2) p=0↔_;have b:x.toNat/8/32=x.toNat/256:=by omega
   rw[b];unfold gf at a ⊢;rw[zQ]at a ⊢;rw[zQ,nG];split
   ·rename_i he;split
    ·rw[←he];simp only[qG];exact⟨λh=>O,λh=>(a.2.2 h).elim⟩
    ·rename_i hl;rw[zX O]at a;exact(a.2.2 rfl).elim
   ·exact Iff.rfl
  ·show(if w=x.toNat/8 then v else sp.wd w)=_
   by_cases hw:w=x.toNat/8
   ·rw[zC hw,zC ⟨h0,hw⟩]
   ·rw[zB hw,zB λh=>hw h.2]
 ·exact⟨rfl,λ_=>Iff.rfl,λw=>by rw[zB λh=>by have:=h.1;contradiction]⟩
theorem HI.write (h:HI H held s0)(x v:Int):HI {H with sp:=Zm H.sp x v} held {s0 with wd:=(Zm H.sp x v).wd}:=by
 obtain⟨a,b,_⟩:=Eg H.sp x v;exact⟨h.wi.wd _,⟨a.trans h.nj.l,λp=>(b p).trans (h.nj.z p),rfl⟩,h.cn,h.lk,h.lv,h.gv,h.th,h.ok,h.a1,a.trans h.sl⟩
end Go.Ar
namespace Go.Ar
open Go Go.Vc Go.Proofs
variable {U u w w':Hp}{F B P Q:Rg}{L:dE}{H H':Hw}{t n:Nat}{g:Th}
end Go.Ar
namespace Go.Proofs
open Go.Vc
set_option maxRecDepth 100000
def Xg.h:Hn:=.q .o2 (.q (.q (.cU (.seq [.op,.op,.op,.cX false 2 [.op,.op]])) .aJ) (.q .o1 (.q .o1 (.q (.k (.loop [(4,.one .s),(5,.I)] (.q (.q .o2 (.c .l .l)) (.k (.q .o7 .o6))))) (.q .o6 (.q .o1 (.q (.q .o1 (.k (.loop [(6,.one .s),(7,.I)] (.q (.q .o4 (.c .l .l)) (.q (.k (.q (.cU (.gN true [] [(70,.one .b)] (.tk [0,1,2,3,4,5] (.split 43 (.tk [6,7,8,9,10,11,12,13,14,15,16,17,18,19,20,21,22,23,24,25,26,27,28,29,30,31,32] (.done)) (.tk [6,7,8,9,10,11,12,13,14,15,16,17,18,19] (.split 57 (.tk [20,21,22,23,24,25,26,27,28,29,30,31,32] (.done)) (.tk [20,21,22,23,25,26,27,28,29] (.all [(24,.all [(30,.take 31 (.take 32 (.done)))])])))))))) (.c .o8 .l))) .o3))))) (.q .o3 .l))))))))
def Xg.v (a:Int)(b:Hp)(c:Sl->Int->Hp->Prop):Prop:=bX (λd e=>If d (c ⟨none,0,0⟩ 1 e) (Yf [.s,bO] (λf=>f ⟨none,0,0⟩ 8 e) λg (h:Sl) (i:Int) j=>If (i<512) (Xz.c i a j λk l m n=>aV #[.I k,.I l,.I m] 149 n λo p=>App h 3 24 149 [.I 0,.I 0,.I 0] ⟨some o,1,1⟩ p λq r=>Ya.c i a r λs t=>bM (i+s) λu=>g q u t) (Xz.c 512 a j λv w x y=>aV #[.I v,.I w,.I x] 149 y λz aa=>App h 3 24 149 [.I 0,.I 0,.I 0] ⟨some z,1,1⟩ aa λab ac=>Yf [.s,bO] (λad=>ad ⟨none,0,0⟩ 0 ac) λae (af:Sl) (ag:Int) ah=>If (ag<((ab.len:Nat):Int)) (Jn [.b] (λ(ai:Bool) aj=>If ai (Ix ab.a ab.len ag 3 λak=>aQ ak 0 aj λal=>aQ ak 1 aj λam=>aQ ak 2 aj λan=>aV #[.I al,.I am,.I an] 149 aj λao ap=>App af 3 24 149 [.I 0,.I 0,.I 0] ⟨some ao,1,1⟩ ap λaq ar=>bM (ag+1) λau=>ae aq au ar) (bM (ag+1) λav=>ae af av aj)) λaw=>dY ah λax=>bM (((ab.len:Nat):Int)-1) λay=>If (ag==ay) (aw true ah) (Ix ab.a ab.len ag 3 λaz=>aS ax az 1 λa0=>bM (ag+1) λa1=>Ix ab.a ab.len a1 3 λa2=>aS ax a2 1 λa3=>If (a0 != a3) (aw true ah) (Ix ab.a ab.len ag 3 λa4=>aS ax a4 0 λa5=>aS ax a4 1 λa6=>aS ax a4 2 λa7=>bM (ag+1) λa8=>Ix ab.a ab.len a8 3 λa9=>aS ax a9 0 λba=>aS ax a9 1 λbb=>aS ax a9 2 λbc=>Xb.c a5 a6 a7 ah λbd be=>
 And (ax be) <| Xb.c ba bb bc be λbf bg=>And (ax bg) <| aw (bd != bf) bg))) (c af 0 ah)))) λbh=>If (a<2) (bh true b) (bh (decide (a>16)) b)
theorem Xg.o {a b c}(d:Xg.v a b c):Xg.c a b c:=Wa Tryz.func96 (x:=Xg.h) (R0 d)
def Xz.h:Hn:=.q .o1 (.q .o8 (.q (.q .o1 (.k (.loop [(6,.I)] (.q (.q .o2 (.c .l .l)) (.q (.k (.q (.cU (.seq [.op,.op,.op,.op,.op,.cX true 9 (RI.ops 9)])) (.c .o3 .l))) .o3))))) .aL))
def Xz.v (a b:Int)(c:Hp)(d:Int->Int->Int->Hp->Prop):Prop:=aV #[.I 0,.I 0,.I 0] 149 c λe f=>Nz a<|bM ((512:Int).tdiv a) λg=>aV #[.I 0,.I 0,.I 0] 149 f λh i=>aR h 0 (.I a) i λj=>aR h 1 (.I 4) j λk=>aR h 2 (.I (if 32<(if 2>g then 2 else g)then 32 else(if 2>g then 2 else g))) k λl=>Yf [bO] (λm=>m 4 l) λn (o:Int) p=>If (o≥1) (bM (o*256) λq=>bX (λr s=>If r (aR h 1 (.I o) s λt=>bM (o-1) λu=>n u t) (bM (o-1) λv=>n v s)) λw=>If (q≥a) (bM (o*256) λx=>Nz a <| bM (b*(x.tmod a)) λy=>bM (o*256) λz=>w (decide (y<=z)) p) (w false p)) (aQ h 0 p λaa=>aQ h 1 p λab=>aQ h 2 p λac=>aR e 0 (.I aa) p λad=>aR e 1 (.I ab) ad λae=>aR e 2 (.I ac) ae λaf=>aQ e 0 af λag=>aQ e 1 af λah=>aQ e 2 af λai=>d ag ah ai af)
theorem Xz.o {a b c d}(e:Xz.v a b c d):Xz.c a b c d:=Wa Tryz.func148 (x:=Xz.h) (R0 e)
def Ya.h:Hn:=.q .o1 (.q .o1 (.q (.k (.loop [(5,.I)] (.q (.q .o6 (.c .l .l)) (.k .o3)))) .aL))
def Ya.v (a b:Int)(c:Hp)(d:aN):Prop:=Yf [bO] (λe=>e 8 c) λf (g:Int) h=>bM (2*g) λi=>Nz b<|bM (a.tdiv b) λj=>If (i<=j) (bM (2*g) λk=>f k h) (d g h)
theorem Ya.o {a b c d}(e:Ya.v a b c d):Ya.c a b c d:=Wa Tryz.func149 (x:=Ya.h) (R0 e)
def Xb.h:Hn:=.q .o2 (.q .o1 (.q (.k (.loop [(3,.I)] (.q (.q .o9 (.c .l .l)) (.k .o3)))) .aL))
def Xb.v (a b c:Int)(d:Hp)(e:aN):Prop:=aV #[.I a,.I b,.I c] 149 d λf g=>Yf [bO] (λh=>h 0 g) λi (j:Int) k=>bM (j+1) λl=>aQ f 0 k λm=>bM (l*m) λn=>aQ f 1 k λo=>bM (o*256) λp=>If (n<=p) (bM (j+1) λq=>i q k) (e j k)
theorem Xb.o {a b c d e}(f:Xb.v a b c d e):Xb.c a b c d e:=Wa Tryz.func150 (x:=Xb.h) (R0 f)
end Go.Proofs
namespace Go.Ar
open Go Go.Vc Go.Proofs
variable {U w:Hp}
abbrev T3:=Int×Int×Int
def v3 (x:T3):List Value:=[.int .i64 x.1,.int .i64 x.2.1,.int .i64 x.2.2]
def lP (l:List T3):List Value:=l.flatMap v3
theorem Dw (l:List T3):(lP l).length=l.length*3:=by
 induction l with
 | nil=>rfl
 | cons x l ih=>simp only[lP,nY,zK,v3,zS,lf]at *;omega
theorem Ry (l:List T3)(x:T3):lP (l++[x])=lP l++v3 x:=by simp[lP]
theorem AB:∀{l:List T3} {i:Nat} {x:T3},l[i]?=some x->∀{d:Nat},d<3->(lP l)[i*3+d]?=(v3 x)[d]?
 | [],_,_,h,_,_=>by simp at h
 | y::l,0,x,h,d,hd=>by
  simp at h;subst h;have e:lP (y::l)=v3 y++lP l:=rfl;rw[e,zd (by simp[v3];omega)];congr 1;omega
 | y::l,i+1,x,h,d,hd=>by
  have e:lP (y::l)=v3 y++lP l:=rfl;have a:(v3 y).length=3:=rfl;rw[e,zr O,a,show(i+1)*3+d-3=i*3+d by omega];exact AB (by simpa using h) hd
theorem Jb {Q:Rg}{s:Sl}{l:List T3}(h:Go.Vc.Own Q U s 3 (lP l)):iu U s l:=by
 have w:=h.1;rw[Dw]at w;refine⟨O,λi x y z g=>?_⟩;obtain⟨b,d,m⟩:=h.cell (j:=i*3+0) (v:=.int .i64 x) ((AB g O).trans rfl);obtain⟨r,a,p⟩:=h.cell (j:=i*3+1) (v:=.int .i64 y) ((AB g O).trans rfl);rw[d]at a;cases a;obtain⟨r,a,u⟩:=h.cell (j:=i*3+2) (v:=.int .i64 z) ((AB g O).trans rfl);rw[d]at a;cases a;refine⟨b,0,d,KY m,?_,?_,?_⟩
 ·rw[show 0+i*3=i*3+0 by omega];exact m
 ·rw[show 0+i*3+1=i*3+1 by omega];exact p
 ·rw[show 0+i*3+2=i*3+2 by omega];exact u
def uT (s w:Int)(n:Nat):Int:=([4,3,2,1].take n).foldl (λ(r p:Int)=>if s<=p*256/\w*((p*256)%s)<=p*256 then p else r) 4
def Ad (s:Int):Int:=min 32 (max 2 (512/s))
def lh (s w:Int):T3:=(s,uT s w 4,Ad s)
def xp:Nat->Int->Int->Int
 | 0,d,_=>d
 | n+1,d,q=>if 2*d<=q then xp n (2*d) q else d
def xW (s w:Int):Int:=xp 8 8 (s/w)
def mF (x:T3):Int:=x.2.1*256/x.1
theorem On (s w:Int)(n:Nat):1<=uT s w n/\uT s w n<=4:=by
 have key:∀(l:List Int) (r:Int),(∀p∈l,1<=p/\p<=4)->1<=r/\r<=4->1<=l.foldl (λ(r p:Int)=>if s<=p*256/\w*((p*256)%s)<=p*256 then p else r) r/\l.foldl (λ(r p:Int)=>if s<=p*256/\w*((p*256)%s)<=p*256 then p else r) r<=4:=by
  intro l
  induction l with
  | nil=>intro r _ h;exact h
  | cons p l ih=>
   intro r hl hr;rw[ru];refine ih _ (λq b=>hl q (lg _ b)) ?_;split
   ·exact hl p lW
   ·exact hr
 refine key _ _ (λp a=>?_) O;have:=vV a;simp at this;omega
theorem I2 (s w:Int)(h1:8<=s)(h2:s<=512)(hw1:2<=w)(hw2:w<=16){R:Int->Int->Int->Hp->Prop}(hR:∀σ',aF U σ'->R (lh s w).1 (lh s w).2.1 (lh s w).2.2 σ'):Xz.c s w U R:=by
 refine Xz.o ?_;unfold Xz.v;have S:1<=512/s/\512/s<=64:=⟨by rw[Int.le_ediv_iff_mul_le O];omega,Int.ediv_le_of_le_mul O O⟩;refine nw (cs:=[.int .i64 0,.int .i64 0,.int .i64 0]) λv hz e N=>nz O (ar (by rw[Ye O];omega) (by rw[Ye O];omega) ?_);rw[Ye O];refine nw (cs:=[.int .i64 0,.int .i64 0,.int .i64 0]) λv1 H e1 C=>C.s1 aA λv2 o2 D=>D.s1 aA λP o3 g=>g.s1 aA λv4 o4 b4=>?_;have b:U.size≠v.size:=by omega
 have y:=WF o4 (WF o3 (WF o2 (e1.bV N id) b) b) b;have M:aF U v4:=((((e.trans e1).only o2 (.inr O)).only o3 (.inr O)).only o4 (.inr O));have m:(if 32<(if 2>512/s then 2 else 512/s)then 32 else(if 2>512/s then 2 else 512/s))=Ad s:=by unfold Ad;omega
 rw[m]at b4;refine Qz (a:=bO) (λ(z:Int) u=>∃n:Nat,n<=4/\z=4-(n:Int)/\aF U u/\bY u U.size [.int .i64 0,.int .i64 0,.int .i64 0]/\bY u v.size [.int .i64 s,.int .i64 (uT s w n),.int .i64 (Ad s)]) (λz _=>z.toNat) ⟨0,O,rfl,M,y,b4⟩ ?_;rintro(z:Int) u ⟨n,hn,rfl,eu,hu,bu⟩;refine cP (λL=>?_) λX=>?_
 ·have Y:n<4:=by omega
  have d:uT s w (n+1)=if s<=(4-(n:Int))*256/\w*(((4-(n:Int))*256)%s)<=(4-(n:Int))*256 then 4-(n:Int)else uT s w n:=by
   have Q:([4,3,2,1]:List Int)[n]?=some (4-(n:Int)):=by
    rcases(show n=0\/n=1\/n=2\/n=3 by omega)with rfl|rfl|rfl|rfl<;>rfl
   unfold uT;rw[kC,Q,vK];rfl
  refine ar O O ?_;refine KD (λr G=>G=u/\r=decide (s<=(4-(n:Int))*256/\w*(((4-(n:Int))*256)%s)<=(4-(n:Int))*256)) (λr G ⟨A,x⟩=>?_) λJ F=>?_
  ·subst A;by_cases hc:s<=(4-(n:Int))*256/\w*(((4-(n:Int))*256)%s)<=(4-(n:Int))*256
   ·rw[zI hc]at x;rw[zC hc]at d;refine cE x (bu.s1 aA λV o1 E=>ar O O ⟨⟨n+1,O,O,eu.only o1 (.inr O),WF o1 hu b,by rw[d];exact E⟩,O⟩)
   ·rw[zL hc]at x;rw[zB hc]at d;exact cD x (ar O O ⟨⟨n+1,O,O,eu,hu,by rw[d];exact bu⟩,O⟩)
  ·have p:=Int.emod_nonneg ((4-(n:Int))*256) (show s≠0 by omega);have W:=Dd ((4-(n:Int))*256) (show 0<s by omega);have aa:w*(((4-(n:Int))*256)%s)<=16*512:=Int.mul_le_mul hw2 O p O;have K:0<=w*(((4-(n:Int))*256)%s):=Int.mul_nonneg O p;refine cP (λh1=>ar O O (nz O ?_)) λh1=>F _ _ ⟨rfl,(zL λj=>h1 j.1).symm⟩;rw[Q1 O];refine ar O O (ar O O (F _ _ ⟨rfl,?_⟩));rw[decide_eq_decide];exact⟨λj=>⟨h1,j⟩,λj=>j.2⟩
 ·have B:n=4:=by omega
  subst B;refine bu.rI rfl (bu.rI rfl (bu.rI rfl (hu.s1 aA λV o1 E=>E.s1 aA λu2 o2 D=>D.s1 aA λZ o3 g=>g.rI rfl (g.rI rfl (g.rI rfl (hR Z ?_))))));exact((eu.only o1 (.inr O)).only o2 (.inr O)).only o3 (.inr O)
theorem WjP (s w:Int)(h1:8<=s)(h2:s<=512)(hw1:2<=w){R:aN}(hR:8<=xW s w->xW s w<=256->R (xW s w) U):Ya.c s w U R:=by
 refine Ya.o ?_;unfold Ya.v;have m:0<=s/w/\s/w<=256:=⟨Int.ediv_nonneg O O,by
  have:s/w<=s/2:=by
   apply Int.le_ediv_of_mul_le O;have:=Int.ediv_mul_le s (show w≠0 by omega);have j:s/w*2<=s/w*w:=Int.mul_le_mul_of_nonneg_left hw1 (Int.ediv_nonneg O O);omega
  omega⟩
 refine Qz (a:=bO) (λ(d:Int) u=>u=U/\∃n:Nat,xp n d (s/w)=xW s w/\8<=d/\d<=256/\512<=d*2^n) (λd _=>1000-d.toNat) ⟨rfl,8,rfl,O,O,by decide⟩ ?_;rintro(d:Int) u ⟨rfl,n,hst,hd1,hd2,hdn⟩;refine ar O O (nz O (ar (by rw[Ye O];omega) (by rw[Ye O];omega) ?_));rw[Ye O];cases n with
 | zero=>simp at hdn;omega
 | succ n=>
  refine cP (λg=>ar O O ⟨⟨rfl,n,?_,O,O,?_⟩,O⟩) λb=>?_
  ·rw[xp,zC g]at hst;exact hst
  ·rw[Int.pow_succ]at hdn;have:2*d*2^n=d*(2^n*2):=by rw[Int.mul_comm 2 d,Int.mul_assoc,Int.mul_comm 2 (2^n)]
   omega
  ·rw[xp,zB b]at hst;rw[←hst]at hR;exact hR hd1 hd2
theorem JG (x:T3)(h1:8<=x.1)(h2:x.1<=512)(h3:1<=x.2.1)(h4:x.2.1<=4){R:aN}(hR:∀σ',aF U σ'->R (mF x) σ'):Xb.c x.1 x.2.1 x.2.2 U R:=by
 refine Xb.o ?_;unfold Xb.v;refine nw (cs:=[.int .i64 x.1,.int .i64 x.2.1,.int .i64 x.2.2]) λv s e j=>?_;refine Qz (a:=bO) (λ(n:Int) u=>aF U u/\bY u U.size [.int .i64 x.1,.int .i64 x.2.1,.int .i64 x.2.2]/\0<=n/\n<=128/\n*x.1<=x.2.1*256) (λn _=>1000-n.toNat) ⟨e,j,O,O,O⟩ ?_;rintro(n:Int) u ⟨eu,bu,hn0,hn1,hn⟩;have r:(n+1)*x.1<=129*512:=Int.mul_le_mul O h2 O O;have m:0<=(n+1)*x.1:=Int.mul_nonneg O O;refine ar O O (bu.rI rfl (ar O O (bu.rI rfl (ar O O ?_))));refine cP (λb=>ar O O ⟨⟨eu,bu,O,?_,b⟩,O⟩) λg=>?_
 ·have:(n+1)*8<=(n+1)*x.1:=Int.mul_le_mul_of_nonneg_left h1 O;omega
 ·have:mF x=n:=by
   unfold mF;have p:n<=x.2.1*256/x.1:=(Int.le_ediv_iff_mul_le O).2 hn;have w:x.2.1*256/x.1<n+1:=(Int.ediv_lt_iff_lt_mul O).2 O;omega
  have d:=hR u eu;rw[this]at d;exact d
end Go.Ar