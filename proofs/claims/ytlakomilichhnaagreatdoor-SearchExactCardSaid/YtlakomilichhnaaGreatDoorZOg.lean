/- Texts of this seat's, what the claim needs of them. -/
import Derived.Test.YtlakomilichhnaaGreatDoorZOa
import Derived.Lib.IndexMore
import Derived.Lib.RuneBytes
import Derived.Lib.TrimByte
namespace Go.Proofs.YtlakomilichhnaaGreatDoor
set_option maxRecDepth 100000
open Go.RowKit
open Bool renaming eq_false_iff→Bq,eq_iff_iff→Bp
open Lib renaming contains→NU,cut→Lp
open List renaming append_assoc→B0,cons_append→CG,cons_prefix_cons→FE,dropWhile_cons→GQ,drop_append_of_le_length→Gc,foldl_cons→Hw,isPrefixOf_iff_prefix→Be,length_append→Af,length_drop→AG,length_pos_iff→BV,length_take→Az,lt_irrefl→GA,map_cons→Cf,map_nil→Ee,mem_cons→B9,mem_cons_of_mem→Bw,mem_cons_self→AY,mem_of_mem_drop→Jg,nil_append→D0,pairwise_cons→DY,takeWhile_cons→Ii
open Nat renaming le_refl→An,not_lt_zero→FI
open Tx renaming rdec→Bv,valid→AL,valid_step→Gs
open UInt8 renaming ofNat→DG,toNat_lt→DN
namespace Rc
end Rc
namespace Tx
end Tx
namespace Sr
open Tx
abbrev By:=List UInt8
def arts (lang:By):List By :=
 if lang=[101,110,103] then [[116,104,101],[97],[97,110]] else if lang=[103,101,114] then [[100,101,114],[100,105,101],[100,97,115],[101,105,110],[101,105,110,101]] else if lang=[115,119,101] then [[101,110],[101,116,116],[100,101,110],[100,101,116],[100,101]]
 else if lang=[115,112,97] then [[101,108],[108,97],[108,111,115],[108,97,115],[117,110],[117,110,97]] else []
def artT:List By→By
 | []=>[32]
 | x::r=>32::(x++artT r)
theorem pre_word:∀ (x v r:By),(32:UInt8) ∉ x→(32:UInt8) ∉ v→(x++[32] <+: v++32::r↔x=v)
 | [],[],r,_,_=>by simp
 | [],d::v,r,_,hv=>by
  have h0:(32:UInt8)≠d:=fun e=>hv (by rw[e];exact AY)
  constructor
  ·intro h
   rw[D0,CG,FE]at h
   exact absurd h.1 h0
  ·intro h;cases h
 | c::x,[],r,hx,_=>by
  have h0:c≠(32:UInt8):=fun e=>hx (by rw[e];exact AY)
  constructor
  ·intro h
   rw[D0,CG,FE]at h
   exact absurd h.1 h0
  ·intro h;cases h
 | c::x,d::v,r,hx,hv=>by
  have ih:=pre_word x v r (fun h=>hx (Bw _ h)) (fun h=>hv (Bw _ h))
  rw[CG,CG,FE,ih,List.cons.injEq]
theorem artT_cons (l:List By):∃ r,artT l=32::r:=by cases l <;> exact⟨_,rfl⟩
theorem inf_word {x:By}:∀ (v t:By),(32:UInt8) ∉ v→(32::x <:+: v++t↔32::x <:+: t)
 | [],t,_=>by simp
 | d::v,t,hv=>by
  have h0:(32:UInt8)≠d:=fun e=>hv (by rw[e];exact AY)
  rw[CG,List.infix_cons_iff,inf_word v t (fun h=>hv (Bw _ h))]
  constructor
  ·rintro (h | h)
   ·rw[FE]at h
    exact absurd h.1 h0
   ·exact h
  ·exact Or.inr
theorem art_in {x:By} (hx:(32:UInt8) ∉ x):∀ (l:List By),(∀ v∈l,(32:UInt8) ∉ v)→(32::(x++[32]) <:+: artT l↔x∈l)
 | [],_=>by
  constructor
  ·intro h
   have:=h.length_le
   simp[artT]at this
  ·intro h;cases h
 | v::l,hl=>by
  have hv:=hl v AY
  have ih:=art_in hx l (fun u hu=>hl u (Bw _ hu))
  obtain⟨r,hr⟩:=artT_cons l
  have e:artT (v::l)=32::(v++artT l):=rfl
  rw[e,List.infix_cons_iff,FE,inf_word v _ hv,ih,B9,hr,pre_word x v r hx hv]
  simp
theorem arts_plain (lang:By):∀ v∈arts lang,(32:UInt8) ∉ v:=by
 unfold arts
 split
 ·decide
 ·split
  ·decide
  ·split
   ·decide
   ·split
    ·decide
    ·intro v hv;cases hv
def skip (lang s:By):By :=
 if foldS (s.takeWhile (· != 32))∈arts lang∧(s.dropWhile (· != 32)).dropWhile (· == 32)≠[] then (s.dropWhile (· != 32)).dropWhile (· == 32) else s
def replC (lang:By) (q:By) (c:Nat):By :=
 if 123≤c∧c≤126 then [32]
 else if lang=[103,101,114] then (if c=196∨c=228 then [97,101] else if c=214∨c=246 then [111,101] else if c=220∨c=252 then [117,101] else q)
 else if lang=[115,119,101] then (if c=197∨c=229 then [123] else if c=196∨c=228 then [124] else if c=214∨c=246 then [125] else q)
 else if lang=[115,112,97] then (if c=209∨c=241 then [110,126] else q)
 else q
def repl (lang s:By):By:=foldT (fun out q c=>out++replC lang q c) [] s
def letter (c:Nat):Bool:=(decide (97≤c)&&decide (c≤122))||(decide (48≤c)&&decide (c≤57))||(decide (123≤c)&&decide (c≤126))||decide (256≤c)
def keyStep (st:By × Bool) (q:By) (c:Nat):By × Bool :=
 if letter c=true then ((if st.2=true∧st.1≠[] then st.1++[32] else st.1)++q,false) else (st.1,true)
def key (lang s:By):By:=(foldT keyStep ([],false) (foldS (repl lang s))).1
def cmpB (a b:By):Int:=if Cp.ltB a b=true then -1 else if a=b then 0 else 1
def cmp (lang a b:By):Int:=if key lang a=key lang b then cmpB a b else cmpB (key lang a) (key lang b)
end Sr
namespace Ix
abbrev By:=List UInt8
structure Post where
 fld:Int
 word:By
 id:Int
 at_:List Int
def ltK (a b:Post):Bool:=Cp.ltI a.fld b.fld||(decide (a.fld=b.fld)&&(Cp.ltB a.word b.word||(decide (a.word=b.word)&&Cp.ltI a.id b.id)))
def sameK (a b:Post):Prop:=a.fld=b.fld∧a.word=b.word∧a.id=b.id
theorem ltK_iff (a b:Post):ltK a b=true↔a.fld<b.fld∨(a.fld=b.fld∧(a.word<b.word∨(a.word=b.word∧a.id<b.id))):=by
 unfold ltK Cp.ltI Cp.ltB
 simp
theorem ltB_tri (a b:By) (h1:¬ a<b) (h2:a≠b):b<a:=by
 have:=(Cp.ordB).tot (x:=a) (y:=b) (by simpa [Cp.ltB] using h1) h2
 simpa [Cp.ltB] using this
theorem ltK_irrefl (a:Post):ltK a a=false:=by
 rw[Bq]
 intro h
 rw[ltK_iff]at h
 rcases h with h | ⟨_,h | ⟨_,h⟩⟩
 ·omega
 ·exact GA _ h
 ·omega
theorem ltK_trans {a b c:Post} (h1:ltK a b=true) (h2:ltK b c=true):ltK a c=true:=by
 rw[ltK_iff]at *
 rcases h1 with h1 | ⟨e1,h1⟩
 ·rcases h2 with h2 | ⟨e2,_⟩
  ·exact .inl (by omega)
  ·exact .inl (by omega)
 ·rcases h2 with h2 | ⟨e2,h2⟩
  ·exact .inl (by omega)
  ·refine .inr ⟨by omega,?_⟩
   rcases h1 with h1 | ⟨f1,h1⟩
   ·rcases h2 with h2 | ⟨f2,_⟩
    ·exact .inl (List.lt_trans h1 h2)
    ·exact .inl (f2▸h1)
   ·rcases h2 with h2 | ⟨f2,h2⟩
    ·exact .inl (f1▸h2)
    ·exact .inr ⟨f1.trans f2,by omega⟩
theorem ltK_tri {a b:Post} (h1:ltK a b=false) (h:¬ sameK a b):ltK b a=true:=by
 rw[Bq]at h1
 rw[ne_eq,ltK_iff]at h1
 rw[ltK_iff]
 by_cases e1:a.fld=b.fld
 ·refine .inr ⟨e1.symm,?_⟩
  by_cases e2:a.word=b.word
  ·refine .inr ⟨e2.symm,?_⟩
   by_cases e3:a.id=b.id
   ·exact absurd ⟨e1,e2,e3⟩ h
   ·have:¬ a.id<b.id:=fun h9=>h1 (.inr ⟨e1,.inr ⟨e2,h9⟩⟩)
    omega
  ·exact .inl (ltB_tri _ _ (fun h9=>h1 (.inr ⟨e1,.inl h9⟩)) e2)
 ·exact .inl (by have:¬ a.fld<b.fld:=fun h9=>h1 (.inl h9);omega)
theorem ltK_ne {a b:Post} (h:ltK a b=true):¬ sameK a b:=by
 rintro⟨e1,e2,e3⟩
 rw[ltK_iff]at h
 rcases h with h | ⟨_,h | ⟨_,h⟩⟩
 ·omega
 ·rw[e2]at h;exact GA _ h
 ·omega
def Asc (l:List Post):Prop:=l.Pairwise fun x y=>ltK x y=true
def ins:List Post→Post→List Post
 | [],x=>[x]
 | y::l,x=>if ltK x y=true then x::y::l else y::ins l x
theorem ins_perm:∀ (l:List Post) (x:Post),(ins l x).Perm (x::l)
 | [],x=>List.Perm.refl _
 | y::l,x=>by
  unfold ins
  split
  ·exact List.Perm.refl _
  ·exact ((ins_perm l x).cons y).trans (List.Perm.swap x y l)
theorem ins_asc:∀ (l:List Post) (x:Post),Asc l→(∀ y∈l,¬ sameK x y)→Asc (ins l x)
 | [],x,_,_=>List.pairwise_singleton _ _
 | y::l,x,h,hne=>by
  have h':=DY.1 h
  unfold ins
  split
  ·rename_i hxy
   refine DY.2 ⟨fun z hz=>?_,h⟩
   rcases B9.1 hz with e | hz
   ·rw[e];exact hxy
   ·exact ltK_trans hxy (h'.1 z hz)
  ·rename_i hxy
   refine DY.2 ⟨fun z hz=>?_,ins_asc l x h'.2 (fun z hz=>hne z (Bw _ hz))⟩
   rcases B9.1 ((ins_perm l x).mem_iff.1 hz) with e | hz
   ·rw[e]
    exact ltK_tri (by simpa using hxy) (hne y (AY ..))
   ·exact h'.1 z hz
def Ownk (l:List Post):Prop:=l.Pairwise fun x y=>¬ sameK x y
theorem sameK_symm {a b:Post} (h:sameK a b):sameK b a:=⟨h.1.symm,h.2.1.symm,h.2.2.symm⟩
theorem Ownk.perm {a b:List Post} (h:Ownk a) (hp:a.Perm b):Ownk b:=hp.pairwise h (fun h k=>h (sameK_symm k))
theorem fold_perm:∀ (ps acc:List Post),(ps.foldl ins acc).Perm (acc++ps)
 | [],acc=>by rw[List.append_nil];exact List.Perm.refl _
 | p::ps,acc=>by
  rw[Hw]
  refine (fold_perm ps _).trans ?_
  refine ((ins_perm acc p).append_right ps).trans ?_
  exact (List.perm_middle (a:=p) (l₁:=acc) (l₂:=ps)).symm
theorem fold_asc:∀ (ps acc:List Post),Asc acc→Ownk (acc++ps)→Asc (ps.foldl ins acc)
 | [],_,h,_=>h
 | p::ps,acc,h,ho=>by
  rw[Hw]
  have h1:=List.pairwise_append.1 ho
  refine fold_asc ps _ (ins_asc acc p h (fun y hy k=>h1.2.2 y hy p (AY ..) (sameK_symm k))) ?_
  exact ho.perm ((List.perm_middle (a:=p) (l₁:=acc) (l₂:=ps)).trans ((ins_perm acc p).symm.append_right ps))
theorem asc_perm:∀ (a b:List Post),Asc a→Asc b→a.Perm b→a=b
 | [],b,_,_,h=>(List.Perm.nil_eq h)
 | x::a,[],_,_,h=>by have:=h.length_eq;simp at this
 | x::a,y::b,ha,hb,h=>by
  have ha':=DY.1 ha
  have hb':=DY.1 hb
  have e:x=y:=by
   rcases B9.1 (h.mem_iff.1 (AY ..)) with e | hx
   ·exact e
   ·rcases B9.1 (h.mem_iff.2 (AY ..)) with e | hy
    ·exact e.symm
    ·have h1:=hb'.1 x hx
     have h2:=ha'.1 y hy
     have h3:=ltK_trans h1 h2
     rw[ltK_irrefl]at h3
     cases h3
  subst e
  rw[asc_perm a b ha'.2 hb'.2 (List.Perm.cons_inv h)]
theorem sorted_eq {s ps acc:List Post} (ha:Asc acc) (ho:Ownk (acc++ps)) (hp:s.Perm (acc++ps)) (hs:s.Pairwise fun x y=>ltK y x=false):s=ps.foldl ins acc:=by
 have h1:=fold_asc ps acc ha ho
 have h2:Ownk s:=ho.perm hp.symm
 have h3:Asc s:=by
  have:=h2.and hs
  exact this.imp fun⟨hn,hf⟩=>ltK_tri hf (fun k=>hn (sameK_symm k))
 exact asc_perm _ _ h3 h1 (hp.trans (fold_perm ps acc).symm)
end Ix
namespace Hd
open Go.Lib Rc
theorem valid_cut {c:UInt8} (hc:32≤c.toNat∧c.toNat<127):∀ (n:Nat) (w r:By),w.length≤n→AL (w++c::r)=true→AL w=true∧AL (c::r)=true
 | 0,w,r,hn,hv=>by
  have:w=[]:=List.eq_nil_of_length_eq_zero (by omega)
  subst this
  exact⟨rfl,hv⟩
 | n+1,w,r,hn,hv=>by
  by_cases hw:w=[]
  ·subst hw;exact⟨rfl,hv⟩
  ·have hne:w++c::r≠[]:=by simp
   obtain⟨hz,_,hwd,hv2,_⟩:=Tx.valid_head hne hv
   have hle:=Tx.rdec_le hne
   have hwl:0<w.length:=BV.2 hw
   have hk:(Bv (w++c::r)).2≤w.length:=by
    rcases Nat.lt_or_ge w.length (Bv (w++c::r)).2 with h9 | h9
    ·exfalso
     have hcc:(w++c::r).getD w.length 0=c:=by simp[List.getD_eq_getElem?_getD]
     unfold Bv Tx.rdecN at h9
     split at h9
     ·have h8:w.length<1:=h9
      omega
     ·split at h9
      ·rename_i hq
       split at h9
       ·have h7:w.length<2:=h9
        have:w.length=1:=by omega
        rw[this]at hcc
        rw[hcc]at hq
        omega
       ·exact absurd h9 (FI _)
      ·split at h9
       ·rename_i hq
        split at h9
        ·have h7:w.length<3:=h9
         have:w.length=1∨w.length=2:=by omega
         rcases this with h8 | h8
         ·rw[h8]at hcc;rw[hcc]at hq;omega
         ·rw[h8]at hcc;rw[hcc]at hq;omega
        ·exact absurd h9 (FI _)
       ·exact absurd h9 (FI _)
    ·exact h9
   have hrd:Bv w=Bv (w++c::r):=by
    have h1:=Tx.rdec_head hne hz
    rw[List.take_append_of_le_length hk]at h1
    have hpn:w.take (Bv (w++c::r)).2≠[]:=by
     intro h0
     have:=congrArg List.length h0
     rw[Az,List.length_nil]at this
     omega
    have h2:=rdec_append (a:=w.take (Bv (w++c::r)).2) (w.drop (Bv (w++c::r)).2) hpn (by rw[h1];exact hz)
    rw[List.take_append_drop]at h2
    rw[h2,h1]
   rw[hwd]at hv2
   rw[Gc hk]at hv2
   obtain⟨h3,h4⟩:=valid_cut hc n (w.drop (Bv (w++c::r)).2) r (by rw[AG];omega) hv2
   refine⟨?_,h4⟩
   rw[Gs hw,hrd,if_neg hz]
   exact h3
theorem valid_tail:∀ (p r:By),(∀ c∈p,32≤c.toNat∧c.toNat<127)→AL (p++r)=true→AL r=true
 | [],r,_,h=>h
 | c::p,r,hp,h=>by
  have hc:=hp c (by simp)
  rw[CG,Gs (by simp),Tx.rdec_asc _ hc,if_neg (show ¬ (c.toNat,1).2=0 by simp)]at h
  exact valid_tail p r (fun x hx=>hp x (by simp[hx])) h
end Hd
namespace Tx
open Go.Lib Rc
theorem take2 {l:By} (h:2≤l.length):l.take 2=[l.getD 0 0,l.getD 1 0]:=by
 match l,h with
 | a::b::r,_=>rfl
theorem take3 {l:By} (h:3≤l.length):l.take 3=[l.getD 0 0,l.getD 1 0,l.getD 2 0]:=by
 match l,h with
 | a::b::c::r,_=>rfl
theorem take1 {l:By} (h:1≤l.length):l.take 1=[l.getD 0 0]:=by
 match l,h with
 | a::r,_=>rfl
theorem byte_of {n:Int}{b:UInt8} (h:n=b.toNat):n.toNat.toUInt8=b:=by
 subst h
 simp
theorem enc_head {l:By} (hne:l≠[]) (h:(rdec l).2≠0):encodeRune ((rdec l).1:Int)=l.take (rdec l).2:=by
 have hl:0<l.length:=BV.2 hne
 have b0:=DN (l.getD 0 0)
 have b1:=DN (l.getD 1 0)
 have b2:=DN (l.getD 2 0)
 unfold rdec rdecN at h ⊢
 by_cases ha:32≤(l.getD 0 0).toNat∧(l.getD 0 0).toNat<127
 ·simp only[if_pos ha]at h ⊢
  rw[take1 (by omega)]
  unfold encodeRune
  rw[encodeRuneZ_one (by omega) (by omega)]
  simp
 ·simp only[if_neg ha]at h ⊢
  by_cases hb:194≤(l.getD 0 0).toNat∧(l.getD 0 0).toNat<224∧1<l.length∧128≤(l.getD 1 0).toNat∧(l.getD 1 0).toNat<192
  ·simp only[if_pos hb]at h ⊢
   by_cases hc:160≤((l.getD 0 0).toNat - 192)*64+(l.getD 1 0).toNat - 128
   ·simp only[if_pos hc]at h ⊢
    rw[take2 (by omega)]
    unfold encodeRune
    rw[encodeRuneZ_two (by omega) (by omega)]
    simp only[Cf,Ee]
    rw[byte_of (b:=l.getD 0 0) (by omega),byte_of (b:=l.getD 1 0) (by omega)]
   ·simp only[if_neg hc]at h
    exact absurd rfl h
  ·simp only[if_neg hb]at h ⊢
   by_cases hd:224≤(l.getD 0 0).toNat∧(l.getD 0 0).toNat<240∧2<l.length∧128≤(l.getD 1 0).toNat∧(l.getD 1 0).toNat<192∧128≤(l.getD 2 0).toNat∧(l.getD 2 0).toNat<192
   ·simp only[if_pos hd]at h ⊢
    split at h
    ·rename_i hq
     simp only[if_pos hq]
     rw[take3 (by omega)]
     unfold encodeRune
     rw[encodeRuneZ_three (by omega)]
     simp only[Cf,Ee]
     rw[byte_of (b:=l.getD 0 0) (by omega),byte_of (b:=l.getD 1 0) (by omega),byte_of (b:=l.getD 2 0) (by omega)]
    ·exact absurd rfl h
   ·simp only[if_neg hd]at h
    exact absurd rfl h
def accL:By:=[97,44,97,44,97,44,97,44,97,44,97,44,97,101,44,99,44,101,44,101,44,101,44,101,44,105,44,105,44,105,44,105,44,100,44,110,44,111,44,111,44,111,44,111,44,111,44,44,111,44,117,44,117,44,117,44,117,44,121,44,116,104,44,115,115,44,97,44,97,44,97,44,97,44,97,44,97,44,97,101,44,99,44,101,44,101,44,101,44,101,44,105,44,105,44,105,44,105,44,100,44,110,44,111,44,111,44,111,44,111,44,111,44,44,111,44,117,44,117,44,117,44,117,44,121,44,116,104,44,121]
theorem acc_split:split accL [44]=(List.range 64).map fun k=>foldC (192+k):=by decide +kernel
theorem acc_count:count accL [44]=63:=by decide +kernel
theorem foldP_up {q:By}{c:Nat} (h:65≤c∧c≤90):foldP q c=[DG (c+32)]:=by
 unfold foldP foldC
 rw[if_pos h,if_neg (by simp)]
theorem foldP_tab {q:By}{c:Nat} (hne:foldC c≠[]):foldP q c=foldC c:=by unfold foldP;rw[if_neg hne]
theorem foldP_same {q:By}{c:Nat} (he:foldC c=[]):foldP q c=q:=by unfold foldP;rw[if_pos he]
theorem foldC_out {c:Nat} (h1:¬ (65≤c∧c≤90)) (h:c<192∨255<c):foldC c=[]:=by
 unfold foldC
 rw[if_neg h1,if_pos (by omega)]
theorem enc_up {c:Nat} (h:65≤c∧c≤90):encodeRune ((c+32:Nat):Int)=[DG (c+32)]:=by
 unfold encodeRune
 rw[encodeRuneZ_one (by omega) (by omega)]
 simp only[Cf,Ee]
 rfl
end Tx
namespace Sr
open Tx
theorem takeW_all {p:UInt8→Bool}:∀ {s:By},(∀ c∈s,p c=true)→s.takeWhile p=s∧s.dropWhile p=[]
 | [],_=>⟨rfl,rfl⟩
 | c::r,h=>by
  have hc:=h c AY
  have ih:=takeW_all (p:=p) (s:=r) fun d hd=>h d (Bw _ hd)
  rw[Ii,GQ,if_pos hc,if_pos hc,ih.1,ih.2]
  exact⟨rfl,rfl⟩
theorem takeW_cut {p:UInt8→Bool}{d:UInt8} (hd:p d=false):∀ {w r:By},(∀ c∈w,p c=true)→(w++d::r).takeWhile p=w∧(w++d::r).dropWhile p=d::r
 | [],r,_=>by
  rw[D0,Ii,GQ,if_neg (by rw[hd];decide),if_neg (by rw[hd];decide)]
  exact⟨rfl,rfl⟩
 | c::w,r,h=>by
  have hc:=h c AY
  have ih:=takeW_cut (p:=p) hd (w:=w) (r:=r) fun d hd=>h d (Bw _ hd)
  rw[CG,Ii,GQ,if_pos hc,if_pos hc,ih.1,ih.2]
  exact⟨rfl,rfl⟩
theorem no_blank {s:By} (h:(32:UInt8) ∉ s):∀ c∈s,(c != 32)=true:=fun _ hc=>bne_iff_ne.2 fun e=>h (e▸hc)
theorem skip_none {lang s:By} (h:(32:UInt8) ∉ s):skip lang s=s:=by
 unfold skip
 rw[(takeW_all (no_blank h)).2,if_neg]
 rintro⟨_,h2⟩
 exact h2 rfl
theorem skip_cut {lang w r:By} (h:(32:UInt8) ∉ w):skip lang (w++32::r)=if foldS w∈arts lang∧r.dropWhile (· == 32)≠[] then r.dropWhile (· == 32) else w++32::r:=by
 unfold skip
 rw[(takeW_cut (p:=fun c=>c != 32) (d:=32) rfl (no_blank h)).1,(takeW_cut (p:=fun c=>c != 32) (d:=32) rfl (no_blank h)).2,GQ,if_pos (show ((32:UInt8) == 32)=true from rfl)]
theorem cut_none {s:By} (h:(32:UInt8) ∉ s):Lp s [32]=(s,[],false):=by
 unfold Lp
 have:Lib.index s [32]=-1:=Lib.index_none fun j _=>by
  unfold Lib.occAt
  rw[Bq]
  intro h9
  have h8:=Be.1 h9
  exact h (Jg (h8.subset AY))
 rw[this,if_neg (by decide)]
theorem cut_at {w r:By} (h:(32:UInt8) ∉ w):Lp (w++32::r) [32]=(w,r,true):=by
 unfold Lp
 have:Lib.index (w++32::r) [32]=(w.length:Int):=by
  refine Lib.index_first (by simp) ?_ fun j hj=>?_
  ·unfold Lib.occAt
   rw[List.drop_left]
   rfl
  ·unfold Lib.occAt
   rw[Bq]
   intro h9
   have h8:=Be.1 h9
   rw[Gc (by omega)]at h8
   obtain⟨c,t,e⟩:∃ c t,w.drop j=c::t:=by
    cases hd:w.drop j with
    | nil=>have:=List.drop_eq_nil_iff.1 hd;omega
    | cons c t=>exact⟨c,t,rfl⟩
   rw[e,CG,FE]at h8
   exact h (Jg (i:=j) (by rw[e,h8.1];exact AY))
 rw[this,if_pos (by omega),Int.toNat_natCast,List.take_left,show w.length+([32]:By).length=w.length+1 from rfl,← List.drop_drop,List.drop_left]
 rfl
theorem split_blank (s:By):(32:UInt8) ∉ s∨∃ w r,s=w++32::r∧(32:UInt8) ∉ w:=by
 by_cases h:(32:UInt8)∈s
 ·right
  induction s with
  | nil=>cases h
  | cons c t ih =>
   by_cases hc:c=32
   ·exact⟨[],t,by rw[hc];rfl,by simp⟩
   ·have ht:(32:UInt8)∈t:=by
     rcases B9.1 h with h | h
     ·exact absurd h.symm hc
     ·exact h
    obtain⟨w,r,e,hw⟩:=ih ht
    refine⟨c::w,r,by rw[e];rfl,?_⟩
    rw[B9,not_or]
    exact⟨fun e=>hc e.symm,hw⟩
 ·exact .inl h
def artM (lang:By):By :=
 if lang=[101,110,103] then [32,116,104,101,32,97,32,97,110,32] else if lang=[103,101,114] then [32,100,101,114,32,100,105,101,32,100,97,115,32,101,105,110,32,101,105,110,101,32] else if lang=[115,119,101] then [32,101,110,32,101,116,116,32,100,101,110,32,100,101,116,32,100,101,32] else if lang=[115,112,97] then [32,101,108,32,108,97,32,108,111,115,32,108,97,115,32,117,110,32,117,110,97,32] else []
theorem contains_iff {s x:By}:NU s x=true↔x <:+: s:=by
 unfold NU
 rw[decide_eq_true_eq]
 rcases Lib.index_spec s x with⟨h1,h2⟩ | ⟨i,h1,h2,h3,_⟩
 ·rw[h1]
  refine⟨fun h=>absurd h (by decide),?_⟩
  rintro⟨a,b,e⟩
  have:=h2 a.length (by rw[← e,Af,Af];omega)
  unfold Lib.occAt at this
  rw[← e,B0,List.drop_left]at this
  rw[Be.2 (List.prefix_append x b)]at this
  cases this
 ·rw[h1]
  refine⟨fun _=>?_,fun _=>by omega⟩
  unfold Lib.occAt at h3
  have h4:=Be.1 h3
  exact h4.isInfix.trans (List.drop_suffix i s).isInfix
theorem contains_art {lang x:By} (hx:(32:UInt8) ∉ x):NU (artM lang) (32::(x++[32]))=decide (x∈arts lang):=by
 rw[Bp,contains_iff,decide_eq_true_eq]
 have key:∀ l:List By,(∀ v∈l,(32:UInt8) ∉ v)→artM lang=artT l→arts lang=l→(32::(x++[32]) <:+: artM lang↔x∈arts lang):=fun l h1 h2 h3=>by
  rw[h2,h3]
  exact art_in hx l h1
 by_cases h1:lang=[101,110,103]
 ·subst h1;exact key _ (arts_plain [101,110,103]) (by decide) rfl
 ·by_cases h2:lang=[103,101,114]
  ·subst h2;exact key _ (arts_plain [103,101,114]) (by decide) rfl
  ·by_cases h3:lang=[115,119,101]
   ·subst h3;exact key _ (arts_plain [115,119,101]) (by decide) rfl
   ·by_cases h4:lang=[115,112,97]
    ·subst h4;exact key _ (arts_plain [115,112,97]) (by decide) rfl
    ·unfold artM arts
     rw[if_neg h1,if_neg h2,if_neg h3,if_neg h4,if_neg h1,if_neg h2,if_neg h3,if_neg h4]
     refine⟨fun h=>?_,fun h=>by cases h⟩
     have:=h.length_le
     simp at this
theorem contains_blank {x:By}:NU x [32]=decide ((32:UInt8)∈x):=by
 rw[Bp,contains_iff,decide_eq_true_eq]
 constructor
 ·intro h;exact h.subset AY
 ·intro h
  obtain⟨a,b,e⟩:=List.append_of_mem h
  exact⟨a,b,by rw[e,B0];rfl⟩
theorem arts_no {lang x:By} (hx:(32:UInt8)∈x):x ∉ arts lang:=fun h=>arts_plain lang x h hx
theorem trim_blanks (r:By):Lib.trimLeftB r 32=r.dropWhile (· == 32):=rfl
theorem arts_nil {lang:By}:([]:By) ∉ arts lang:=fun h=>by
 have:∀ lang,([]:By) ∉ arts lang:=by
  intro lang
  unfold arts
  split
  ·decide
  ·split
   ·decide
   ·split
    ·decide
    ·split
     ·decide
     ·intro h;cases h
 exact this lang h
theorem tw {p:UInt8→Bool}:∀ {l:By}{c:UInt8},c∈l.takeWhile p→p c=true
 | [],_,h=>by cases h
 | d::r,c,h=>by
  rw[Ii]at h
  split at h
  ·rename_i hd
   rcases B9.1 h with e | h
   ·rw[e];exact hd
   ·exact tw h
  ·cases h
theorem skip_valid {lang s:By} (hv:valid s=true):valid (skip lang s)=true:=by
 rcases split_blank s with h | ⟨w,r,rfl,hw⟩
 ·rw[skip_none h];exact hv
 ·rw[skip_cut hw]
  split
  ·have h1:=(Hd.valid_cut (c:=32) (by decide) _ w r (An _) hv).2
   have h2:valid ((32::r.takeWhile (· == 32))++r.dropWhile (· == 32))=true:=by rw[CG,List.takeWhile_append_dropWhile];exact h1
   refine Hd.valid_tail _ _ (fun c hc=>?_) h2
   have hc2:c=32:=by
    rcases B9.1 hc with e | hc
    ·exact e
    ·have:=tw hc
     simpa using this
   rw[hc2]
   decide
  ·exact hv
theorem dw_len (p:UInt8→Bool) (l:By):(l.dropWhile p).length≤l.length:=(List.dropWhile_sublist p).length_le
theorem skip_len (lang s:By):(skip lang s).length≤s.length:=by
 unfold skip
 split
 ·exact Nat.le_trans (dw_len _ _) (dw_len _ _)
 ·exact An _
theorem replC_valid {lang q:By}{c:Nat} (hq:valid q=true):valid (replC lang q c)=true:=by
 unfold replC
 repeat' split
 all_goals first | exact hq | decide
theorem repl_valid {lang s:By} (hv:valid s=true):valid (repl lang s)=true:=by
 have:=foldT_ind (fun (out:By) q c=>out++replC lang q c) (fun st _=>valid st=true) (fun st m hne hm ho=>Rc.valid_app ho (replC_valid (valid_piece hne hm).1)) s.length [] s (An _) hv rfl
 exact this
theorem replC_len (lang q:By) (c:Nat):(replC lang q c).length≤q.length+2:=by
 unfold replC
 repeat' split
 all_goals first | omega | (simp)
theorem repl_len {lang s:By} (hv:valid s=true):(repl lang s).length≤3*s.length:=by
 have:=foldT_ind (fun (out:By) q c=>out++replC lang q c) (fun st m=>st.length+3*m.length≤3*s.length) (fun st m hne hm ho=>by
  have h1:=replC_len lang (m.take (wid m)) (rdec m).1
  have h2:=wid_pos m
  have h3:=wid_le hne
  rw[Af,AG]
  rw[Az,Nat.min_eq_left h3]at h1
  omega) s.length [] s (An _) hv (by simp)
 have h2:(repl lang s).length+3*([]:By).length≤3*s.length:=this
 simpa using h2
end Sr
end Go.Proofs.YtlakomilichhnaaGreatDoor
