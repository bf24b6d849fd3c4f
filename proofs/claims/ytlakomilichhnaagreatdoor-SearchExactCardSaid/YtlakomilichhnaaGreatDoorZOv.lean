/- Texts of this seat's, what the claim needs of them. -/
import Derived.Test.YtlakomilichhnaaGreatDoorZOu
namespace Go.Proofs.YtlakomilichhnaaGreatDoor
set_option maxHeartbeats 6400000
set_option maxRecDepth 100000
open Go.RowKit
open Br renaming cells_new_at→AR
open Go renaming Calls→Ac,World→A9,bodyPost_ret→DF,heap_alloc_new→Ar,maxLen→Au
open IntWalk renaming i64_in→Bj
open Lib renaming hid→J
open List renaming flatMap_append→BB,getElem?_append_left→Eg,getElem?_append_right→CS,length_append→Af,length_cons→AO,length_nil→BL,length_tail→Ej,setIfInBounds_toArray→AJ,set_cons_succ→B5,set_cons_zero→B4,suffix_refl→Ek
open Nat renaming le_refl→An
open Option renaming none→A4,some→A2
open Proofs.Tryz renaming prog→A3,underlying27→Ft
open Qr renaming Fr→Co,PS→CZ,Qy→BK,Res→El,Tok→D7,andB→Jr,begins→I5,blk_set1→Lk,eats_all→Lm,encQ→Dm,far6→Ik,isOp→Kw,lAnd→Mf,nodesL→CJ,nodesL_app→Gr,notB→Ll,pNot→Kx,pPrim→IZ,run_tok0→Iu,run_tok1→Iv,run_tok2→Iw,tail_eats→FP,zeroQ→Ce
open Qr.Fr renaming put6→Hj,refl→EN
open Qr.Kp renaming below→Fg,put6→GX,refl→Jf
open Qr.PS renaming of'→LF
open RowKit.Below renaming refl→Ab
open Tx renaming blk→Aq,blk_far→Da,blk_later→Aj,newb→Aa,put6→Hx
open Value renaming oneCell'→AT,slice→Em
open World renaming ownsRow_lit→Fs,setCell→CO,size_alloc→Bn
open _root_.Array renaming getElem?_eq_some_iff→AN
section
attribute [local go_sem] Iu Iv Iw
theorem cut_c (tt x y:List UInt8) (b:Bool) (w:A9) (hG:G w) (hs:tt.length≤1000) (h:Lib.cut tt [45]=(x,y,b)) :
  Ac A3 93 #[.string ⟨tt.toArray⟩,.string ⟨#[45]⟩] w fun e w'=>e=.returned (.tuple #[.string ⟨x.toArray⟩,.string ⟨y.toArray⟩,.bool b])∧Below w.heap.size w w':=by
 obtain⟨m,hm⟩:=hG.m
 refine (Tryz.strings_Cut ⟨tt.toArray⟩ ⟨#[45]⟩ m w (by rw[Tx.size_mk];omega) hm).mono ?_
 rintro e w' ⟨rfl,q,rfl⟩
 refine⟨?_,Tx.drawn (Ab _ _) _⟩
 rw[show (⟨tt.toArray⟩:ByteArray).data.toList=tt from rfl,show (⟨#[45]⟩:ByteArray).data.toList=[45] from rfl,h]
theorem year_some {x:List UInt8}{n:Nat} (h:Qr.yearN x=A2 n) (hs:x.length≤1000) (w:A9) (hG:G w) :
  Ac A3 308 #[.string ⟨x.toArray⟩] w fun e w'=>e=.returned (.int .i64 (n:Int))∧Below w.heap.size w w':=by
 refine (year_c ⟨x.toArray⟩ w (by rw[Tx.size_mk];omega) hG).mono ?_
 rintro e w' ⟨h1,h2⟩
 rw[show (⟨x.toArray⟩:ByteArray).data.toList=x from rfl,h]at h1
 exact⟨h1,h2⟩
end
namespace Qr
theorem words_nil {t:List UInt8}:wordsB t=[]↔Tx.words t=[]:=by unfold wordsB;exact List.map_eq_nil_iff
theorem words_n (t:List UInt8):(wordsB t).length=(Tx.words t).length:=by unfold wordsB;rw[List.length_map]
end Qr
section
attribute [local go_sem] Iu Iv Iw
theorem prim_bad (g:Nat) (l r:List D7) (w:A9) (hP:CZ g l r w) (hb:I5 r=false) :
  Ac A3 287 #[.pointer (A2 ⟨g,0,A4⟩)] w fun e w'=>e=.panicked [{ v:=Qr.wrongP,recovered:=false }]∧Co g w w':=by
 have hsl:=hP.suf.length_le
 have hll:=hP.len
 have hgl:=hP.lt
 obtain⟨ta,tc,kg,_,_⟩:=hP.blk
 obtain⟨A,hA⟩:∃ A,l.length - r.length=A:=⟨_,rfl⟩
 rw[hA]at kg
 have hP0:=hP.below (Aa w (.cells Ce 29))
 have KG:=J kg;clear kg
 have HPP:=J hP;clear hP
 have HB:=J hb;clear hb
 go_enter Tryz.func287,Tryz.ntmps287
 go_wp2_with (first
  |(go_at_call 251;refine (begins_c g l r _ hP0).mono ?_;rintro e w1 ⟨rfl,hb1⟩;rw[HB.out];have hP1:=hP0.below hb1;have s1:w.heap.size<w1.heap.size:=(by have:=hb1.size;simp at this;omega);have KG1:=J (Aj (Aj KG.out (Aa w _)) hb1);have KR1:Hid (w1.heap[w.heap.size]?=A2 (.cells Ce 29 (0,0))):=J (Aj (Ar w _) hb1);have hF1:Co g w w1:=((EN g w).alloc _).trans (.of_below hb1)))
 exact⟨rfl,rfl,hF1⟩
theorem prim_par_none (g:Nat) (l r:List D7) (w:A9) (hP:CZ g l r w) (kk:UInt8) (tt:List UInt8) (tg:Bool) (K:Int) (ht:Qr.lk r=⟨kk,tt,tg⟩) (hK:(kk.toNat:Int)=K) (hb:I5 r=true) (h40:K=40) (x:Qr.PR) (hOr:∀ w,CZ g l r.tail w→Ac A3 117 #[.pointer (A2 ⟨g,0,A4⟩)] w (El g l x w)) (ho:x=A4) :
  Ac A3 287 #[.pointer (A2 ⟨g,0,A4⟩)] w fun e w'=>e=.panicked [{ v:=Qr.wrongP,recovered:=false }]∧Co g w w':=by
 have hsl:=hP.suf.length_le
 have hll:=hP.len
 have hgl:=hP.lt
 obtain⟨ta,tc,kg,_,_⟩:=hP.blk
 obtain⟨A,hA⟩:∃ A,l.length - r.length=A:=⟨_,rfl⟩
 rw[hA]at kg
 have hP0:=hP.below (Aa w (.cells Ce 29))
 have KG:=J kg;clear kg
 have HPP:=J hP;clear hP
 have hk1:=Qr.begins_ne hb
 have hte:=FP hk1
 have L0:=fun w h=>look0 (K:=K) (w:=w) (g:=g) (l:=l) ht hK h
 have HB:=J hb;clear hb
 have HTE:=J hte;clear hk1
 have hA1:(A:Int)+1=((l.length - r.tail.length:Nat):Int):=by have:=hte.2;rw[Ej]at this ⊢;omega
 have hw1:=Bj ((A:Int)+1) ⟨by omega,by omega⟩
 have HA1:=J hA1;clear hA1 hte ht hK
 subst h40
 have HO:=J ho;clear ho
 go_enter Tryz.func287,Tryz.ntmps287
 go_wp2_with (first
  |(go_at_call 117;refine (hOr _ hPS3).mono ?_;rintro e w4 h4;rw[HO.out]at h4;obtain⟨rfl,hF4⟩:=h4.bad;have hF4':=hF3.trans hF4)
  |(go_at_call 252;refine (L0 _ hP1).mono ?_;rintro e w2 ⟨rfl,hb2⟩;have s2:=hb2.size;have kT2:(w2.alloc (.cells #[.int .u8 40,.string ⟨tt.toArray⟩,.bool tg] 205)).heap[w2.heap.size]?=A2 (.cells #[.int .u8 40,.string ⟨tt.toArray⟩,.bool tg] 205 (0,0)):=Ar _ _;have kg2:(w2.alloc (.cells #[.int .u8 40,.string ⟨tt.toArray⟩,.bool tg] 205)).heap[g]?=A2 (.cells #[.slice ta l.length tc,.int .i64 (A:Int)] 129 (0,0)):=Aj (Aj KG1.out hb2) (Aa w2 _);have kR2:(w2.alloc (.cells #[.int .u8 40,.string ⟨tt.toArray⟩,.bool tg] 205)).heap[w.heap.size]?=A2 (.cells Ce 29 (0,0)):=Aj (Aj KR1.out hb2) (Aa w2 _);have hF2:Co g w (w2.alloc (.cells #[.int .u8 40,.string ⟨tt.toArray⟩,.bool tg] 205)):=(hF1.trans (.of_below hb2)).alloc _;have hP2:CZ g l r (w2.alloc (.cells #[.int .u8 40,.string ⟨tt.toArray⟩,.bool tg] 205)):=(hP1.below hb2).below (Aa w2 _);have eg:(w2.alloc (.cells #[.int .u8 40,.string ⟨tt.toArray⟩,.bool tg] 205)).cell? ⟨g,1,A4⟩=A2 (.int .i64 (A:Int)):=(Aq kg2).1 1;have fg:∀ i,(w2.alloc (.cells #[.int .u8 40,.string ⟨tt.toArray⟩,.bool tg] 205)).frozen? ⟨g,i,A4⟩=false:=(Aq kg2).2.1;have KT2:=J kT2;have KG2:=J kg2;have KR2:=J kR2;clear kT2 kg2 kR2;have kg3:((w2.alloc (.cells #[.int .u8 40,.string ⟨tt.toArray⟩,.bool tg] 205)).setCell ⟨g,1,A4⟩ (.int .i64 ((A:Int)+1))).heap[g]?=A2 (.cells #[.slice ta l.length tc,.int .i64 ((A:Int)+1)] 129 (0,0)):=Lk KG2.out _;have hF3:Co g w ((w2.alloc (.cells #[.int .u8 40,.string ⟨tt.toArray⟩,.bool tg] 205)).setCell ⟨g,1,A4⟩ (.int .i64 ((A:Int)+1))):=hF2.set rfl _;have hPS3:CZ g l r.tail ((w2.alloc (.cells #[.int .u8 40,.string ⟨tt.toArray⟩,.bool tg] 205)).setCell ⟨g,1,A4⟩ (.int .i64 ((A:Int)+1))):=Qr.PS.of HPP.out KG.out hF3 HTE.out.1 kg3 HA1.out;have KR3:=J (Da (a:=⟨g,1,A4⟩) KR2.out (show w.heap.size≠g by omega) (.int .i64 ((A:Int)+1)));have s3:((w2.alloc (.cells #[.int .u8 40,.string ⟨tt.toArray⟩,.bool tg] 205)).setCell ⟨g,1,A4⟩ (.int .i64 ((A:Int)+1))).heap.size=w2.heap.size+1:=(by simp[CO]);clear kg3)
  |(go_at_call 251;refine (begins_c g l r _ hP0).mono ?_;rintro e w1 ⟨rfl,hb1⟩;rw[HB.out];have hP1:=hP0.below hb1;have s1:w.heap.size<w1.heap.size:=(by have:=hb1.size;simp at this;omega);have KG1:=J (Aj (Aj KG.out (Aa w _)) hb1);have KR1:Hid (w1.heap[w.heap.size]?=A2 (.cells Ce 29 (0,0))):=J (Aj (Ar w _) hb1);have hF1:Co g w w1:=((EN g w).alloc _).trans (.of_below hb1)))
 exact⟨rfl,rfl,hF4'⟩
end
section
attribute [local go_sem] Iu Iv Iw
theorem not_none (g:Nat) (l r:List D7) (w:A9) (hP:CZ g l r w) (x:Qr.PR) (hPr:∀ w,CZ g l r w→Ac A3 287 #[.pointer (A2 ⟨g,0,A4⟩)] w (El g l x w)) (ho:x=A4) :
  Ac A3 250 #[.pointer (A2 ⟨g,0,A4⟩)] w fun e w'=>e=.panicked [{ v:=Qr.wrongP,recovered:=false }]∧Co g w w':=by
 have hgl:=hP.lt
 have hll:=hP.len
 have hP0:=hP.below (Aa w (.cells Ce 29))
 have HPP:=J hP;clear hP
 have HO:=J ho;clear ho
 go_enter Tryz.func250,Tryz.ntmps250
 go_wp2_with (first
  |(go_at_call 287;refine (hPr _ hP0).mono ?_;rintro e w1 h1;rw[HO.out]at h1;obtain⟨rfl,hF1⟩:=h1.bad;have hF1':Co g w w1:=((EN g w).alloc _).trans hF1))
 exact⟨rfl,rfl,hF1'⟩
theorem not_plain (g:Nat) (l r:List D7) (w:A9) (hP:CZ g l r w) (x:Qr.PR) (hPr:∀ w,CZ g l r w→Ac A3 287 #[.pointer (A2 ⟨g,0,A4⟩)] w (El g l x w)) (q:BK) (r':List D7) (ho:x=A2 (q,r')) (hr':r' <:+ r) (hi:Kw Ll r'=false) :
  Ac A3 250 #[.pointer (A2 ⟨g,0,A4⟩)] w fun e w'=>El g l (A2 (q,r')) w e w':=by
 have hgl:=hP.lt
 have hll:=hP.len
 have hP0:=hP.below (Aa w (.cells Ce 29))
 have HPP:=J hP;clear hP
 have HO:=J ho;clear ho
 have hsl:=hr'.length_le
 obtain⟨A5,hA5⟩:∃ A5,l.length - r'.length=A5:=⟨_,rfl⟩
 have hw5:=Bj ((A5:Int)+1) ⟨by omega,by omega⟩
 have HA5:=J hA5
 have HI:=J hi;clear hi hA5
 go_enter Tryz.func250,Tryz.ntmps250
 go_wp2_with (first
  |(go_at_call 196;refine (is_c g l r' Ll _ hP1').mono ?_;rintro e w2 ⟨rfl,hb2⟩;rw[HI.out];have s2:=hb2.size;simp only[Bn]at s2;have KR2:=J (Aj KR1.out hb2);have KQ2:=J (Aj KQ1.out hb2);have hF2:=hF1'.trans (.of_below hb2);have hP2:=hP1'.below hb2;have x0:w2.cell? ⟨w1.heap.size,0,A4⟩=A2 (.int .i64 qo):=(Aq KQ2.out).1 0;have x1:w2.cell? ⟨w1.heap.size,1,A4⟩=A2 (.int .i64 qf):=(Aq KQ2.out).1 1;have x2:w2.cell? ⟨w1.heap.size,2,A4⟩=A2 (.slice qsa qsn qsc):=(Aq KQ2.out).1 2;have x3:w2.cell? ⟨w1.heap.size,3,A4⟩=A2 (.int .i64 qa):=(Aq KQ2.out).1 3;have x4:w2.cell? ⟨w1.heap.size,4,A4⟩=A2 (.int .i64 qb):=(Aq KQ2.out).1 4;have x5:w2.cell? ⟨w1.heap.size,5,A4⟩=A2 (.slice qka qkn qkc):=(Aq KQ2.out).1 5;have z0:w2.cell? ⟨w.heap.size,0,A4⟩=A2 (.int .i64 0):=(Aq KR2.out).1 0;have z1:w2.cell? ⟨w.heap.size,1,A4⟩=A2 (.int .i64 0):=(Aq KR2.out).1 1;have z2:w2.cell? ⟨w.heap.size,2,A4⟩=A2 (.slice A4 0 0):=(Aq KR2.out).1 2;have z3:w2.cell? ⟨w.heap.size,3,A4⟩=A2 (.int .i64 0):=(Aq KR2.out).1 3;have z4:w2.cell? ⟨w.heap.size,4,A4⟩=A2 (.int .i64 0):=(Aq KR2.out).1 4;have z5:w2.cell? ⟨w.heap.size,5,A4⟩=A2 (.slice A4 0 0):=(Aq KR2.out).1 5;have fr2:∀ i,w2.frozen? ⟨w.heap.size,i,A4⟩=false:=(Aq KR2.out).2.1;obtain⟨ta2,tc2,kg2,_,_⟩:=hP2.blk;rw[HA5.out]at kg2;have eg2:w2.cell? ⟨g,1,A4⟩=A2 (.int .i64 (A5:Int)):=(Aq kg2).1 1;have fg2:∀ i,w2.frozen? ⟨g,i,A4⟩=false:=(Aq kg2).2.1;have KG2:=J kg2;clear kg2)
  |(go_at_call 287;refine (hPr _ hP0).mono ?_;rintro e w1 h1;rw[HO.out]at h1;obtain⟨qo,qf,qa,qb,qsa,qsn,qsc,qka,qkn,qkc,rfl,hq1,hP1,hF1⟩:=h1.get;have s1:=hF1.size;simp only[Bn]at s1 hq1;have hF1':Co g w (w1.alloc (.cells #[.int .i64 qo,.int .i64 qf,.slice qsa qsn qsc,.int .i64 qa,.int .i64 qb,.slice qka qkn qkc] 29)):=(((EN g w).alloc _).trans hF1).alloc _;have KR1:Hid ((w1.alloc (.cells #[.int .i64 qo,.int .i64 qf,.slice qsa qsn qsc,.int .i64 qa,.int .i64 qb,.slice qka qkn qkc] 29)).heap[w.heap.size]?=A2 (.cells Ce 29 (0,0))):=J (Aj ((hF1.block w.heap.size (by omega) (by simp)).trans (Ar w _)) (Aa w1 _));have KQ1:Hid ((w1.alloc (.cells #[.int .i64 qo,.int .i64 qf,.slice qsa qsn qsc,.int .i64 qa,.int .i64 qb,.slice qka qkn qkc] 29)).heap[w1.heap.size]?=A2 (.cells #[.int .i64 qo,.int .i64 qf,.slice qsa qsn qsc,.int .i64 qa,.int .i64 qb,.slice qka qkn qkc] 29 (0,0))):=J (Ar w1 _);have hP1':CZ g l r' (w1.alloc (.cells #[.int .i64 qo,.int .i64 qf,.slice qsa qsn qsc,.int .i64 qa,.int .i64 qb,.slice qka qkn qkc] 29)):=hP1.below (Aa w1 _)))
 refine DF (v:=.agg #[.int .i64 qo,.int .i64 qf,.slice qsa qsn qsc,.int .i64 qa,.int .i64 qb,.slice qka qkn qkc]) (by simp[results,Tryz.results250,go_sem,z0,z1,z2,z3,z4,z5]) rfl ⟨⟨qo,qf,qsa,qsn,qsc,qa,qb,qka,qkn,qkc⟩,rfl,?_,?_,Hj hF2 (An _) _ _ _ _ _ _⟩
 ·exact (hq1.kp ((Fg (Aa w1 _)).trans ((Fg hb2).trans (GX (Jf _ _) (by omega) _ _ _ _ _ _)))).mono (by omega)
 ·exact LF hP2 KG2.out (Hx (Ab _ _) (by omega) _ _ _ _ _ _) (Ek _) (Ik KG2.out (show g≠w.heap.size by omega) _ _ _ _ _ _) (by rw[HA5.out])
theorem not_none2 (g:Nat) (l r:List D7) (w:A9) (hP:CZ g l r w) (x:Qr.PR) (hPr:∀ w,CZ g l r w→Ac A3 287 #[.pointer (A2 ⟨g,0,A4⟩)] w (El g l x w)) (q:BK) (r':List D7) (ho:x=A2 (q,r')) (hr':r' <:+ r) (hi:Kw Ll r'=true) (y:Qr.PR) (hPr2:∀ w,CZ g l r'.tail w→Ac A3 287 #[.pointer (A2 ⟨g,0,A4⟩)] w (El g l y w)) (hy:y=A4) :
  Ac A3 250 #[.pointer (A2 ⟨g,0,A4⟩)] w fun e w'=>e=.panicked [{ v:=Qr.wrongP,recovered:=false }]∧Co g w w':=by
 have hgl:=hP.lt
 have hll:=hP.len
 have hP0:=hP.below (Aa w (.cells Ce 29))
 have HPP:=J hP;clear hP
 have HO:=J ho;clear ho
 have hsl:=hr'.length_le
 obtain⟨A5,hA5⟩:∃ A5,l.length - r'.length=A5:=⟨_,rfl⟩
 have hw5:=Bj ((A5:Int)+1) ⟨by omega,by omega⟩
 have HA5:=J hA5
 have hte5:=FP (Qr.isOp_ne hi)
 have hA6:(A5:Int)+1=((l.length - r'.tail.length:Nat):Int):=by
  have h1:=hte5.2
  have h3:=hll
  have h4:=(hr'.trans HPP.out.suf).length_le
  rw[Ej]at h1 ⊢
  omega
 have HA6:=J hA6
 have HT5:=J hte5
 have HI:=J hi;clear hi hA5 hA6 hte5
 have HY:=J hy;clear hy
 go_enter Tryz.func250,Tryz.ntmps250
 go_wp2_with (first
  |(go_at_call 196;refine (is_c g l r' Ll _ hP1').mono ?_;rintro e w2 ⟨rfl,hb2⟩;rw[HI.out];have s2:=hb2.size;simp only[Bn]at s2;have KR2:=J (Aj KR1.out hb2);have KQ2:=J (Aj KQ1.out hb2);have hF2:=hF1'.trans (.of_below hb2);have hP2:=hP1'.below hb2;have x0:w2.cell? ⟨w1.heap.size,0,A4⟩=A2 (.int .i64 qo):=(Aq KQ2.out).1 0;have x1:w2.cell? ⟨w1.heap.size,1,A4⟩=A2 (.int .i64 qf):=(Aq KQ2.out).1 1;have x2:w2.cell? ⟨w1.heap.size,2,A4⟩=A2 (.slice qsa qsn qsc):=(Aq KQ2.out).1 2;have x3:w2.cell? ⟨w1.heap.size,3,A4⟩=A2 (.int .i64 qa):=(Aq KQ2.out).1 3;have x4:w2.cell? ⟨w1.heap.size,4,A4⟩=A2 (.int .i64 qb):=(Aq KQ2.out).1 4;have x5:w2.cell? ⟨w1.heap.size,5,A4⟩=A2 (.slice qka qkn qkc):=(Aq KQ2.out).1 5;have z0:w2.cell? ⟨w.heap.size,0,A4⟩=A2 (.int .i64 0):=(Aq KR2.out).1 0;have z1:w2.cell? ⟨w.heap.size,1,A4⟩=A2 (.int .i64 0):=(Aq KR2.out).1 1;have z2:w2.cell? ⟨w.heap.size,2,A4⟩=A2 (.slice A4 0 0):=(Aq KR2.out).1 2;have z3:w2.cell? ⟨w.heap.size,3,A4⟩=A2 (.int .i64 0):=(Aq KR2.out).1 3;have z4:w2.cell? ⟨w.heap.size,4,A4⟩=A2 (.int .i64 0):=(Aq KR2.out).1 4;have z5:w2.cell? ⟨w.heap.size,5,A4⟩=A2 (.slice A4 0 0):=(Aq KR2.out).1 5;have fr2:∀ i,w2.frozen? ⟨w.heap.size,i,A4⟩=false:=(Aq KR2.out).2.1;obtain⟨ta2,tc2,kg2,_,_⟩:=hP2.blk;rw[HA5.out]at kg2;have eg2:w2.cell? ⟨g,1,A4⟩=A2 (.int .i64 (A5:Int)):=(Aq kg2).1 1;have fg2:∀ i,w2.frozen? ⟨g,i,A4⟩=false:=(Aq kg2).2.1;have KG2:=J kg2;clear kg2;have kg3:(w2.setCell ⟨g,1,A4⟩ (.int .i64 ((A5:Int)+1))).heap[g]?=A2 (.cells #[.slice ta2 l.length tc2,.int .i64 ((A5:Int)+1)] 129 (0,0)):=Lk KG2.out _;have hF3:Co g w (w2.setCell ⟨g,1,A4⟩ (.int .i64 ((A5:Int)+1))):=hF2.set rfl _;have hP3:CZ g l r'.tail (w2.setCell ⟨g,1,A4⟩ (.int .i64 ((A5:Int)+1))):=LF hP2 KG2.out ((Ab g _).setCell (An g) _) HT5.out.1 kg3 HA6.out;have kR3:(w2.setCell ⟨g,1,A4⟩ (.int .i64 ((A5:Int)+1))).heap[w.heap.size]?=A2 (.cells Ce 29 (0,0)):=Da (a:=⟨g,1,A4⟩) KR2.out (show w.heap.size≠g by omega) _;have kQ3:(w2.setCell ⟨g,1,A4⟩ (.int .i64 ((A5:Int)+1))).heap[w1.heap.size]?=A2 (.cells #[.int .i64 qo,.int .i64 qf,.slice qsa qsn qsc,.int .i64 qa,.int .i64 qb,.slice qka qkn qkc] 29 (0,0)):=Da (a:=⟨g,1,A4⟩) KQ2.out (show w1.heap.size≠g by omega) _;have s3:(w2.setCell ⟨g,1,A4⟩ (.int .i64 ((A5:Int)+1))).heap.size=w2.heap.size:=(by simp[CO]);clear x0 z0;clear x1 z1;clear x2 z2;clear x3 z3;clear x4 z4;clear x5 z5;clear fr2 kg3)
  |(go_at_call 287;refine (hPr _ hP0).mono ?_;rintro e w1 h1;rw[HO.out]at h1;obtain⟨qo,qf,qa,qb,qsa,qsn,qsc,qka,qkn,qkc,rfl,hq1,hP1,hF1⟩:=h1.get;have s1:=hF1.size;simp only[Bn]at s1 hq1;have hF1':Co g w (w1.alloc (.cells #[.int .i64 qo,.int .i64 qf,.slice qsa qsn qsc,.int .i64 qa,.int .i64 qb,.slice qka qkn qkc] 29)):=(((EN g w).alloc _).trans hF1).alloc _;have KR1:Hid ((w1.alloc (.cells #[.int .i64 qo,.int .i64 qf,.slice qsa qsn qsc,.int .i64 qa,.int .i64 qb,.slice qka qkn qkc] 29)).heap[w.heap.size]?=A2 (.cells Ce 29 (0,0))):=J (Aj ((hF1.block w.heap.size (by omega) (by simp)).trans (Ar w _)) (Aa w1 _));have KQ1:Hid ((w1.alloc (.cells #[.int .i64 qo,.int .i64 qf,.slice qsa qsn qsc,.int .i64 qa,.int .i64 qb,.slice qka qkn qkc] 29)).heap[w1.heap.size]?=A2 (.cells #[.int .i64 qo,.int .i64 qf,.slice qsa qsn qsc,.int .i64 qa,.int .i64 qb,.slice qka qkn qkc] 29 (0,0))):=J (Ar w1 _);have hP1':CZ g l r' (w1.alloc (.cells #[.int .i64 qo,.int .i64 qf,.slice qsa qsn qsc,.int .i64 qa,.int .i64 qb,.slice qka qkn qkc] 29)):=hP1.below (Aa w1 _)))
 obtain⟨W3,hW3⟩:∃ W3,W3=(w2.setCell ⟨g,1,A4⟩ (.int .i64 ((A5:Int)+1))):=⟨_,rfl⟩
 rw[← hW3]at hF3 hP3 kR3 kQ3 s3
 rw[← hW3]
 have hK3:Qr.Kp (w.heap.size+1) w1 W3:=by rw[hW3];exact ((Fg (Aa w1 _)).trans (Fg hb2)).set (show g<w.heap.size+1 by omega) _
 clear hW3
 have x0:W3.cell? ⟨w1.heap.size,0,A4⟩=A2 (.int .i64 qo):=(Aq kQ3).1 0;have x1:W3.cell? ⟨w1.heap.size,1,A4⟩=A2 (.int .i64 qf):=(Aq kQ3).1 1;have x2:W3.cell? ⟨w1.heap.size,2,A4⟩=A2 (.slice qsa qsn qsc):=(Aq kQ3).1 2;have x3:W3.cell? ⟨w1.heap.size,3,A4⟩=A2 (.int .i64 qa):=(Aq kQ3).1 3;have x4:W3.cell? ⟨w1.heap.size,4,A4⟩=A2 (.int .i64 qb):=(Aq kQ3).1 4;have x5:W3.cell? ⟨w1.heap.size,5,A4⟩=A2 (.slice qka qkn qkc):=(Aq kQ3).1 5
 have KQ3:=J kQ3
 have KR3:=J kR3
 clear kQ3 kR3
 refine wp_region_held_drew (S:=(fun w'=>w'.cell? ⟨w1.heap.size,0,A4⟩=A2 (.int .i64 qo)∧w'.cell? ⟨w1.heap.size,1,A4⟩=A2 (.int .i64 qf)∧w'.cell? ⟨w1.heap.size,2,A4⟩=A2 (.slice qsa qsn qsc)∧w'.cell? ⟨w1.heap.size,3,A4⟩=A2 (.int .i64 qa)∧w'.cell? ⟨w1.heap.size,4,A4⟩=A2 (.int .i64 qb)∧w'.cell? ⟨w1.heap.size,5,A4⟩=A2 (.slice qka qkn qkc))) (by kernel_rfl) ?_ (fun hHeld=>?_)
 ·exact⟨x0,x1,x2,x3,x4,x5⟩
 refine wpAnyH_take (i:=0) (oi:=⟨A2 17,_,_,_,_,_⟩) (v:=.agg #[.int .i64 qo,.int .i64 qf,.slice qsa qsn qsc,.int .i64 qa,.int .i64 qb,.slice qka qkn qkc]) rfl (by kernel_rfl) (by kernel_rfl) (by kernel_rfl) (fun _ _ _ h=>h) (Or.inl ⟨by rfl,?_⟩) ‹_› ?_
 ·intro w hSw;(try dsimp only at hSw);go_simp
 simp only[Act.put,AJ,B4,B5]
 refine wpAnyH_take (i:=1) (oi:=⟨A2 18,_,_,_,_,_⟩) (v:=.pointer (A2 ⟨g,0,A4⟩)) rfl (by kernel_rfl) (by kernel_rfl) (by kernel_rfl) (fun _ _ _ h=>h) (Or.inl ⟨by rfl,?_⟩) ‹_› ?_
 ·intro w hSw;(try dsimp only at hSw);go_simp
 simp only[Act.put,AJ,B4,B5]
 refine wpAnyH_ready (rs:=[2]) (by kernel_rfl) (by simp) ?_
 refine AllReadyH.cons (o:=⟨A2 19,_,_,_,_,_⟩) rfl (fun K hK=>?_) AllReadyH.nil
 go_simp
 go_split_ands
 go_at_call 287
 refine (hPr2 _ (hP3.below ((Ab W3.heap.size W3).drew))).mono ?_
 rintro e w5 h5
 rw[HY.out]at h5
 obtain⟨rfl,hF5⟩:=h5.bad
 have hF5':Co g w w5:=hF3.trans (((EN g W3).drew).trans hF5)
 exact⟨rfl,rfl,hF5'⟩
namespace Qr
theorem fa_new {w:A9}{K:Nat}{T:List QT}{t:TypeId} (h:w.heap[K]?=A2 (.cells (T.flatMap encQ).toArray t (0,0))) (hm:T.length≤Au):Br.FA encQ 6 w (A2 ⟨K,0,A4⟩) T.length T:=by
 obtain⟨c,_,hl⟩:=Aq h
 refine⟨An _,hm,K,0,fun _=>⟨rfl,hl⟩,fun j i x u hx hu=>?_⟩
 have hi:i<6:=by have:=(List.getElem?_eq_some_iff.1 hu).1;rw[encQ_len]at this;exact this
 rw[Nat.zero_add,c,List.getElem?_toArray,Br.flat_at encQ 6 encQ_len T j i x hx hi,hu]
end Qr
theorem not_two (g:Nat) (l r:List D7) (w:A9) (hP:CZ g l r w) (x:Qr.PR) (hPr:∀ w,CZ g l r w→Ac A3 287 #[.pointer (A2 ⟨g,0,A4⟩)] w (El g l x w)) (q:BK) (r':List D7) (ho:x=A2 (q,r')) (hr':r' <:+ r) (hi:Kw Ll r'=true) (y:Qr.PR) (hPr2:∀ w,CZ g l r'.tail w→Ac A3 287 #[.pointer (A2 ⟨g,0,A4⟩)] w (El g l y w)) (q2:BK) (r2:List D7) (hy:y=A2 (q2,r2)) :
  Ac A3 250 #[.pointer (A2 ⟨g,0,A4⟩)] w fun e w'=>El g l (A2 (.mk 7 0 [] 0 0 [q,q2],r2)) w e w':=by
 have hgl:=hP.lt
 have hll:=hP.len
 have hP0:=hP.below (Aa w (.cells Ce 29))
 have HPP:=J hP;clear hP
 have HO:=J ho;clear ho
 have hsl:=hr'.length_le
 obtain⟨A5,hA5⟩:∃ A5,l.length - r'.length=A5:=⟨_,rfl⟩
 have hw5:=Bj ((A5:Int)+1) ⟨by omega,by omega⟩
 have HA5:=J hA5
 have hte5:=FP (Qr.isOp_ne hi)
 have hA6:(A5:Int)+1=((l.length - r'.tail.length:Nat):Int):=by
  have h1:=hte5.2
  have h3:=hll
  have h4:=(hr'.trans HPP.out.suf).length_le
  rw[Ej]at h1 ⊢
  omega
 have HA6:=J hA6
 have HT5:=J hte5
 have HI:=J hi;clear hi hA5 hA6 hte5
 have HY:=J hy;clear hy
 go_enter Tryz.func250,Tryz.ntmps250
 go_wp2_with (first
  |(go_at_call 196;refine (is_c g l r' Ll _ hP1').mono ?_;rintro e w2 ⟨rfl,hb2⟩;rw[HI.out];have s2:=hb2.size;simp only[Bn]at s2;have KR2:=J (Aj KR1.out hb2);have KQ2:=J (Aj KQ1.out hb2);have hF2:=hF1'.trans (.of_below hb2);have hP2:=hP1'.below hb2;have x0:w2.cell? ⟨w1.heap.size,0,A4⟩=A2 (.int .i64 qo):=(Aq KQ2.out).1 0;have x1:w2.cell? ⟨w1.heap.size,1,A4⟩=A2 (.int .i64 qf):=(Aq KQ2.out).1 1;have x2:w2.cell? ⟨w1.heap.size,2,A4⟩=A2 (.slice qsa qsn qsc):=(Aq KQ2.out).1 2;have x3:w2.cell? ⟨w1.heap.size,3,A4⟩=A2 (.int .i64 qa):=(Aq KQ2.out).1 3;have x4:w2.cell? ⟨w1.heap.size,4,A4⟩=A2 (.int .i64 qb):=(Aq KQ2.out).1 4;have x5:w2.cell? ⟨w1.heap.size,5,A4⟩=A2 (.slice qka qkn qkc):=(Aq KQ2.out).1 5;have z0:w2.cell? ⟨w.heap.size,0,A4⟩=A2 (.int .i64 0):=(Aq KR2.out).1 0;have z1:w2.cell? ⟨w.heap.size,1,A4⟩=A2 (.int .i64 0):=(Aq KR2.out).1 1;have z2:w2.cell? ⟨w.heap.size,2,A4⟩=A2 (.slice A4 0 0):=(Aq KR2.out).1 2;have z3:w2.cell? ⟨w.heap.size,3,A4⟩=A2 (.int .i64 0):=(Aq KR2.out).1 3;have z4:w2.cell? ⟨w.heap.size,4,A4⟩=A2 (.int .i64 0):=(Aq KR2.out).1 4;have z5:w2.cell? ⟨w.heap.size,5,A4⟩=A2 (.slice A4 0 0):=(Aq KR2.out).1 5;have fr2:∀ i,w2.frozen? ⟨w.heap.size,i,A4⟩=false:=(Aq KR2.out).2.1;obtain⟨ta2,tc2,kg2,_,_⟩:=hP2.blk;rw[HA5.out]at kg2;have eg2:w2.cell? ⟨g,1,A4⟩=A2 (.int .i64 (A5:Int)):=(Aq kg2).1 1;have fg2:∀ i,w2.frozen? ⟨g,i,A4⟩=false:=(Aq kg2).2.1;have KG2:=J kg2;clear kg2;have kg3:(w2.setCell ⟨g,1,A4⟩ (.int .i64 ((A5:Int)+1))).heap[g]?=A2 (.cells #[.slice ta2 l.length tc2,.int .i64 ((A5:Int)+1)] 129 (0,0)):=Lk KG2.out _;have hF3:Co g w (w2.setCell ⟨g,1,A4⟩ (.int .i64 ((A5:Int)+1))):=hF2.set rfl _;have hP3:CZ g l r'.tail (w2.setCell ⟨g,1,A4⟩ (.int .i64 ((A5:Int)+1))):=LF hP2 KG2.out ((Ab g _).setCell (An g) _) HT5.out.1 kg3 HA6.out;have kR3:(w2.setCell ⟨g,1,A4⟩ (.int .i64 ((A5:Int)+1))).heap[w.heap.size]?=A2 (.cells Ce 29 (0,0)):=Da (a:=⟨g,1,A4⟩) KR2.out (show w.heap.size≠g by omega) _;have kQ3:(w2.setCell ⟨g,1,A4⟩ (.int .i64 ((A5:Int)+1))).heap[w1.heap.size]?=A2 (.cells #[.int .i64 qo,.int .i64 qf,.slice qsa qsn qsc,.int .i64 qa,.int .i64 qb,.slice qka qkn qkc] 29 (0,0)):=Da (a:=⟨g,1,A4⟩) KQ2.out (show w1.heap.size≠g by omega) _;have s3:(w2.setCell ⟨g,1,A4⟩ (.int .i64 ((A5:Int)+1))).heap.size=w2.heap.size:=(by simp[CO]);clear x0 z0;clear x1 z1;clear x2 z2;clear x3 z3;clear x4 z4;clear x5 z5;clear fr2 kg3)
  |(go_at_call 287;refine (hPr _ hP0).mono ?_;rintro e w1 h1;rw[HO.out]at h1;obtain⟨qo,qf,qa,qb,qsa,qsn,qsc,qka,qkn,qkc,rfl,hq1,hP1,hF1⟩:=h1.get;have s1:=hF1.size;simp only[Bn]at s1 hq1;have hF1':Co g w (w1.alloc (.cells #[.int .i64 qo,.int .i64 qf,.slice qsa qsn qsc,.int .i64 qa,.int .i64 qb,.slice qka qkn qkc] 29)):=(((EN g w).alloc _).trans hF1).alloc _;have KR1:Hid ((w1.alloc (.cells #[.int .i64 qo,.int .i64 qf,.slice qsa qsn qsc,.int .i64 qa,.int .i64 qb,.slice qka qkn qkc] 29)).heap[w.heap.size]?=A2 (.cells Ce 29 (0,0))):=J (Aj ((hF1.block w.heap.size (by omega) (by simp)).trans (Ar w _)) (Aa w1 _));have KQ1:Hid ((w1.alloc (.cells #[.int .i64 qo,.int .i64 qf,.slice qsa qsn qsc,.int .i64 qa,.int .i64 qb,.slice qka qkn qkc] 29)).heap[w1.heap.size]?=A2 (.cells #[.int .i64 qo,.int .i64 qf,.slice qsa qsn qsc,.int .i64 qa,.int .i64 qb,.slice qka qkn qkc] 29 (0,0))):=J (Ar w1 _);have hP1':CZ g l r' (w1.alloc (.cells #[.int .i64 qo,.int .i64 qf,.slice qsa qsn qsc,.int .i64 qa,.int .i64 qb,.slice qka qkn qkc] 29)):=hP1.below (Aa w1 _)))
 obtain⟨W3,hW3⟩:∃ W3,W3=(w2.setCell ⟨g,1,A4⟩ (.int .i64 ((A5:Int)+1))):=⟨_,rfl⟩
 rw[← hW3]at hF3 hP3 kR3 kQ3 s3
 rw[← hW3]
 have hK3:Qr.Kp (w.heap.size+1) w1 W3:=by rw[hW3];exact ((Fg (Aa w1 _)).trans (Fg hb2)).set (show g<w.heap.size+1 by omega) _
 clear hW3
 have x0:W3.cell? ⟨w1.heap.size,0,A4⟩=A2 (.int .i64 qo):=(Aq kQ3).1 0;have x1:W3.cell? ⟨w1.heap.size,1,A4⟩=A2 (.int .i64 qf):=(Aq kQ3).1 1;have x2:W3.cell? ⟨w1.heap.size,2,A4⟩=A2 (.slice qsa qsn qsc):=(Aq kQ3).1 2;have x3:W3.cell? ⟨w1.heap.size,3,A4⟩=A2 (.int .i64 qa):=(Aq kQ3).1 3;have x4:W3.cell? ⟨w1.heap.size,4,A4⟩=A2 (.int .i64 qb):=(Aq kQ3).1 4;have x5:W3.cell? ⟨w1.heap.size,5,A4⟩=A2 (.slice qka qkn qkc):=(Aq kQ3).1 5
 have KQ3:=J kQ3
 have KR3:=J kR3
 clear kQ3 kR3
 go_region_with (go_at_call 287;refine (hPr2 _ (hP3.below ((Ab W3.heap.size W3).drew))).mono ?_;rintro e w5 h5;rw[HY.out]at h5;obtain⟨po,pf,pa,pb,psa,psn,psc,pka,pkn,pkc,rfl,hq5,hP5,hF5⟩:=h5.get;have s5:=hF5.size;have s5d:W3.heap.size≤w5.heap.size:=s5;have hF53:Co g W3 w5:=((EN g W3).drew).trans hF5;have hF5':Co g w w5:=hF3.trans hF53;have kQ5:=(hF53.block w1.heap.size (by omega) (AN.1 KQ3.out).1).trans KQ3.out;have kR5:=(hF53.block w.heap.size (by omega) (AN.1 KR3.out).1).trans KR3.out;have v0:w5.cell? ⟨w1.heap.size,0,A4⟩=A2 (.int .i64 qo):=(Aq kQ5).1 0;have v1:w5.cell? ⟨w1.heap.size,1,A4⟩=A2 (.int .i64 qf):=(Aq kQ5).1 1;have v2:w5.cell? ⟨w1.heap.size,2,A4⟩=A2 (.slice qsa qsn qsc):=(Aq kQ5).1 2;have v3:w5.cell? ⟨w1.heap.size,3,A4⟩=A2 (.int .i64 qa):=(Aq kQ5).1 3;have v4:w5.cell? ⟨w1.heap.size,4,A4⟩=A2 (.int .i64 qb):=(Aq kQ5).1 4;have v5:w5.cell? ⟨w1.heap.size,5,A4⟩=A2 (.slice qka qkn qkc):=(Aq kQ5).1 5;have kR6:∀ o,(w5.alloc o).heap[w.heap.size]?=A2 (.cells Ce 29 (0,0)):=(fun o=>Aj kR5 (Aa w5 o));have y0:∀ o,(w5.alloc o).cell? ⟨w.heap.size,0,A4⟩=A2 (.int .i64 0):=(fun o=>(Aq (kR6 o)).1 0);have y1:∀ o,(w5.alloc o).cell? ⟨w.heap.size,1,A4⟩=A2 (.int .i64 0):=(fun o=>(Aq (kR6 o)).1 1);have y2:∀ o,(w5.alloc o).cell? ⟨w.heap.size,2,A4⟩=A2 (.slice A4 0 0):=(fun o=>(Aq (kR6 o)).1 2);have y3:∀ o,(w5.alloc o).cell? ⟨w.heap.size,3,A4⟩=A2 (.int .i64 0):=(fun o=>(Aq (kR6 o)).1 3);have y4:∀ o,(w5.alloc o).cell? ⟨w.heap.size,4,A4⟩=A2 (.int .i64 0):=(fun o=>(Aq (kR6 o)).1 4);have y5:∀ o,(w5.alloc o).cell? ⟨w.heap.size,5,A4⟩=A2 (.slice A4 0 0):=(fun o=>(Aq (kR6 o)).1 5);have fr6:∀ o i,(w5.alloc o).frozen? ⟨w.heap.size,i,A4⟩=false:=(fun o=>(Aq (kR6 o)).2.1);clear kQ5 kR5 kR6)
 all_goals
  go_wp2
  refine DF (v:=.agg #[.int .i64 7,.int .i64 0,.slice A4 0 0,.int .i64 0,.int .i64 0,.slice (A2 ⟨w5.heap.size,0,A4⟩) 2 2]) (by simp[results,Tryz.results250,go_sem,y0,y1,y2,y3,y4,y5]) rfl ?_
  obtain⟨W6,hW6⟩:∃ W6,W6=w5.alloc (.cells #[.int .i64 qo,.int .i64 qf,.slice qsa qsn qsc,.int .i64 qa,.int .i64 qb,.slice qka qkn qkc,.int .i64 po,.int .i64 pf,.slice psa psn psc,.int .i64 pa,.int .i64 pb,.slice pka pkn pkc] 29):=⟨_,rfl⟩
  have hblk:W6.heap[w5.heap.size]?=A2 (.cells ([(⟨qo,qf,qsa,qsn,qsc,qa,qb,qka,qkn,qkc⟩:Qr.QT),(⟨po,pf,psa,psn,psc,pa,pb,pka,pkn,pkc⟩:Qr.QT)].flatMap Dm).toArray 29 (0,0)):=by
   rw[hW6]
   exact Ar w5 _
  have hK6:Qr.Kp (w.heap.size+1) w5 W6:=by rw[hW6];exact Fg (Aa _ _)
  have hB6:Below w5.heap.size w5 W6:=by rw[hW6];exact Aa _ _
  have hF6:Co g w W6:=by rw[hW6];exact hF5'.alloc _
  rw[← hW6]
  clear hW6
  have hK1:=hK3.trans ((Qr.Kp.fr hF53 (show g<w.heap.size+1 by omega)).trans hK6)
  have hdd:W3.drew.heap.size=W3.heap.size:=rfl
  have hq1':=(hq1.kp (GX hK1 (show w.heap.size<w.heap.size+1 by omega) (.int .i64 7) (.int .i64 0) (.slice A4 0 0) (.int .i64 0) (.int .i64 0) (.slice (A2 ⟨w5.heap.size,0,A4⟩) 2 2))).mono (show w.heap.size≤w.heap.size+1 by omega)
  have hq5':=(hq5.kp (GX (hK6.mono (show w.heap.size+1≤W3.drew.heap.size by omega)) (show w.heap.size<W3.drew.heap.size by omega) (.int .i64 7) (.int .i64 0) (.slice A4 0 0) (.int .i64 0) (.int .i64 0) (.slice (A2 ⟨w5.heap.size,0,A4⟩) 2 2))).mono (show w.heap.size≤W3.drew.heap.size by omega)
  have hfa:=Qr.fa_new (Ik hblk (show w5.heap.size≠w.heap.size by omega) (.int .i64 7) (.int .i64 0) (.slice A4 0 0) (.int .i64 0) (.int .i64 0) (.slice (A2 ⟨w5.heap.size,0,A4⟩) 2 2)) (by show 2≤Au;unfold Au;omega)
  have hql:=(Qr.QL.one (t:=⟨qo,qf,qsa,qsn,qsc,qa,qb,qka,qkn,qkc⟩) hq1').app (Qr.QL.one (t:=⟨po,pf,psa,psn,psc,pa,pb,pka,pkn,pkc⟩) hq5')
  have hka:=Qr.KA.of_ts hql hfa (fun _ ad e9=>by cases e9;simp only;omega)
  obtain⟨ta6,tc6,kg6,_,_⟩:=hP5.blk
  have kg7:=Aj kg6 hB6
  exact⟨⟨7,0,A4,0,0,0,0,A2 ⟨w5.heap.size,0,A4⟩,2,2⟩,rfl,Qr.QC.of_kids (ws:=[]) (.inl ⟨rfl,_,_,rfl⟩) (fun h=>absurd rfl h) hka,LF hP5 kg6 (Hx (hB6.mono (show g≤w5.heap.size by omega)) (show g≤w.heap.size by omega) _ _ _ _ _ _) (Ek _) (Ik kg7 (show g≠w.heap.size by omega) _ _ _ _ _ _) rfl,Hj hF6 (An _) _ _ _ _ _ _⟩
theorem not_c (g n:Nat) (l:List D7) (hPr:∀ (r:List D7) (w:A9),8*r.length+4≤n→CZ g l r w→Ac A3 287 #[.pointer (A2 ⟨g,0,A4⟩)] w (El g l (IZ true n r) w))
  (r:List D7) (w:A9) (hn:8*r.length+5≤n+1) (hP:CZ g l r w) :
  Ac A3 250 #[.pointer (A2 ⟨g,0,A4⟩)] w (El g l (Kx true (n+1) r) w):=by
 have h1:=fun w h=>hPr r w (by omega) h
 have he:=(Lm true n).2.2.2.2.2 r
 have e0:Kx true (n+1) r=match IZ true n r with
   | none=>A4
   | some (q,r')=>if Kw Ll r'=true then match IZ true n r'.tail with
     | none=>A4
     | some (q2,r2)=>A2 (.mk 7 0 [] 0 0 [q,q2],r2)
    else A2 (q,r'):=by rw[Kx];rfl
 cases ho:IZ true n r with
 | none =>
  rw[ho]at h1 e0
  rw[e0]
  exact not_none g l r w hP A4 h1 rfl
 | some p =>
  obtain⟨q,r'⟩:=p
  rw[ho]at h1 e0
  have hs:=he q r' ho
  by_cases hi:Kw Ll r'=true
  ·have hte:=FP (Qr.isOp_ne hi)
   have h2:=fun w h=>hPr r'.tail w (by have:=hs.2;have:=hte.2;omega) h
   cases hy:IZ true n r'.tail with
   | none =>
    rw[hy]at h2
    rw[show Kx true (n+1) r=A4 by rw[e0];simp only;rw[if_pos hi,hy]]
    exact not_none2 g l r w hP _ h1 q r' rfl hs.1 hi A4 h2 rfl
   | some p2 =>
    obtain⟨q2,r2⟩:=p2
    rw[hy]at h2
    rw[show Kx true (n+1) r=A2 (.mk 7 0 [] 0 0 [q,q2],r2) by rw[e0];simp only;rw[if_pos hi,hy]]
    exact not_two g l r w hP _ h1 q r' rfl hs.1 hi _ h2 q2 r2 rfl
  ·rw[show Kx true (n+1) r=A2 (q,r') by rw[e0];simp only;rw[if_neg hi]]
   exact not_plain g l r w hP _ h1 q r' rfl hs.1 (by simpa using hi)
end
namespace Qr
def Held (base:Nat) (w:A9) (own:Option Nat) (k:Qy) (t:QT):Prop :=
 ∃ B w0,QC B w0 k (encQ t)∧Kp B w0 w∧(∀ b,own=A2 b→b<B∨w0.heap.size≤b)∧base≤B
def HL (base:Nat) (w:A9) (own:Option Nat) (ks:List Qy) (T:List QT):Prop:=T.length=ks.length∧∀ (j:Nat) k t,ks[j]?=A2 k→T[j]?=A2 t→Held base w own k t
theorem HL.fr {g base:Nat}{w w':A9}{own:Option Nat}{ks:List Qy}{T:List QT} (h:HL base w own ks T) (hF:Fr g w w') (hg:g<base):HL base w' own ks T :=
 ⟨h.1,fun j k t h1 h2=>by
  obtain⟨B,w0,a,b,c,d⟩:=h.2 j k t h1 h2
  exact⟨B,w0,a,b.trans (Kp.fr hF (by omega)),c,d⟩⟩
theorem HL.grown {base:Nat}{w w':A9}{own own':Option Nat}{ks:List Qy}{T:List QT} (h:HL base w own ks T) (hg:w.grownBy w' own) (ho:own'=own∨own'=A2 w.heap.size):HL base w' own' ks T :=
 ⟨h.1,fun j k t h1 h2=>by
  obtain⟨B,w0,a,b,c,d⟩:=h.2 j k t h1 h2
  refine⟨B,w0,a,⟨Nat.le_trans b.size hg.size,fun i i1 i2=>?_⟩,fun x hx=>?_,d⟩
  ·exact (hg.block i (Nat.lt_of_lt_of_le i2 b.size) (fun e=>by have:=c i e.symm;omega)).trans (b.block i i1 i2)
  ·rcases ho with ho | ho
   ·exact c x (by rw[← ho];exact hx)
   ·rw[ho]at hx
    injection hx with hx
    have:=b.size
    omega⟩
theorem HL.one' {base B:Nat}{w0 w:A9}{own:Option Nat}{k:Qy}{t:QT} (h:QC B w0 k (encQ t)) (hK:Kp B w0 w) (hb:base≤B) (ho:∀ b,own=A2 b→b<B∨w0.heap.size≤b):HL base w own [k] [t]:=by
 refine⟨rfl,fun j k2 t2 h1 h2=>?_⟩
 match j,h1,h2 with
 | 0,h1,h2=>injection h1 with h1;injection h2 with h2;rw[← h1,← h2];exact⟨B,w0,h,hK,ho,hb⟩
 | j+1,h1,_=>simp at h1
theorem HL.app {base:Nat}{w:A9}{own:Option Nat}{ks ks2:List Qy}{T T2:List QT} (h:HL base w own ks T) (h2:HL base w own ks2 T2):HL base w own (ks++ks2) (T++T2):=by
 refine⟨by rw[Af,Af,h.1,h2.1],fun j k t hk ht=>?_⟩
 by_cases hj:j<ks.length
 ·rw[Eg hj]at hk
  rw[Eg (by rw[h.1];exact hj)]at ht
  exact h.2 j k t hk ht
 ·rw[CS (by omega)]at hk
  rw[CS (by rw[h.1];omega),h.1]at ht
  exact h2.2 _ k t hk ht
theorem HL.ql {base:Nat}{w:A9}{own:Option Nat}{ks:List Qy}{T:List QT} (h:HL base w own ks T):QL base w ks T :=
 ⟨h.1,fun j k t h1 h2=>by
  obtain⟨B,w0,a,b,_,d⟩:=h.2 j k t h1 h2
  exact (a.kp b).mono d⟩
theorem HL.ka {base e:Nat}{w:A9}{v:Value}{ks:List Qy}{T:List QT} (h:HL base w v.ownBlock ks T) (ho:w.ownsRow base e 6 v T.length (T.flatMap encQ)):∃ a c,v=.slice a ks.length c∧KA base w a c ks:=by
 obtain⟨a,c,e1,hf,hb⟩:=Br.FA.of_own encQ_len ho rfl
 exact⟨a,c,by rw[← h.1];exact e1,KA.of_ts h.ql hf (fun _ ad had=>hb ad had)⟩
theorem PS.low {g:Nat}{l r:List Tok}{w w':A9} (h:PS g l r w) (hB:Below (g+1) w w'):PS g l r w':=by
 obtain⟨ta,tc,kg,_,_⟩:=h.blk
 exact h.of' kg (hB.mono (by omega)) (Ek _) ((hB.block g (by omega)).trans kg) rfl
def atOf (g:Nat) (w:A9):Nat:=match w.cell? ⟨g,1,A4⟩ with
 | some (.int _ n)=>n.toNat
 | _=>0
theorem PS.at_ {g:Nat}{l r:List Tok}{w:A9} (h:PS g l r w):atOf g w=l.length - r.length:=by
 obtain⟨_,_,_,h1,_⟩:=h.cells
 unfold atOf
 rw[h1]
 simp
theorem nodesL_flat (op:Int):∀ l:List Qy,nodesL (l.flatMap (flat op))≤nodesL l
 | []=>by simp[nodesL]
 | .mk o f ws a b ks::r=>by
  have h1:=nodesL_flat op r
  rw[List.flatMap_cons,nodesL_app,nodesL]
  have h2:nodesL (flat op (.mk o f ws a b ks))≤nodes (.mk o f ws a b ks):=by
   unfold flat
   split
   ·simp only[Qy.ks,nodes];omega
   ·simp only[nodesL];omega
  omega
theorem joined_nodes (op:Int) (l:List Qy) (h:l≠[]):nodes (joined op l)+1≤nodesL l+l.length:=by
 by_cases h1:l.length=1
 ·match l,h1 with
  | [x],_=>simp only[joined_one,nodesL,AO,BL];omega
 ·rw[joined_many op l h1]
  have:=nodesL_flat op l
  have hl:2≤l.length:=by
   cases l with
   | nil=>exact absurd rfl h
   | cons x r=>cases r with
    | nil=>simp at h1
    | cons y s=>simp
  simp only[nodes]
  omega
def Nb (r:List Tok) (x:PR):Prop:=∀ q r',x=A2 (q,r')→nodes q+1+2*r'.length≤2*r.length
theorem Nb.leaf {r:List Tok}{x:PR} (h:Eats r x) (hn:∀ q r',x=A2 (q,r')→nodes q=1):Nb r x:=fun q r' e=>by
 have:=(h q r' e).2
 have:=hn q r' e
 omega
theorem leaf_n (o f a b:Int) (ws:List ByteArray):nodes (.mk o f ws a b [])=1:=by simp[nodes,nodesL]
theorem years_leaf (st:Bool) (r:List Tok):∀ q r',pYears st r=A2 (q,r')→nodes q=1:=by
 intro q r' h
 unfold pYears at h
 repeat' split at h
 all_goals first | (cases h;done) | (injection h with h;injection h with h _;rw[← h];exact leaf_n _ _ _ _ _)
theorem term_leaf (st:Bool) (f:Int) (r:List Tok):∀ q r',pTerm st f r=A2 (q,r')→nodes q=1:=by
 intro q r' h
 unfold pTerm at h
 repeat' split at h
 all_goals first | (cases h;done) | (injection h with h;injection h with h _;rw[← h];exact leaf_n _ _ _ _ _)
theorem flat_leaf (st:Bool) (r:List Tok):∀ q r',pFlat st r=A2 (q,r')→nodes q=1:=by
 intro q r' h
 unfold pFlat at h
 repeat' split at h
 all_goals first | (cases h;done) | exact years_leaf _ _ _ _ h | exact term_leaf _ _ _ _ _ h
theorem nodes_all (st:Bool):∀ n,(∀ r,Nb r (pOr st n r))∧(∀ acc r q r',acc≠[]→lOr st n acc r=A2 (q,r')→nodes q+1+2*r'.length≤nodesL acc+acc.length+2*r.length)∧(∀ r,Nb r (pAnd st n r))∧(∀ acc r q r',acc≠[]→lAnd st n acc r=A2 (q,r')→nodes q+1+2*r'.length≤nodesL acc+acc.length+2*r.length)∧(∀ r,Nb r (pNot st n r))∧(∀ r,Nb r (pPrim st n r))
 | 0=>⟨fun r q r' h=>by simp[pOr]at h,fun _ _ _ _ _ h=>by simp[lOr]at h,fun r q r' h=>by simp[pAnd]at h,fun _ _ _ _ _ h=>by simp[lAnd]at h,fun r q r' h=>by simp[pNot]at h,fun r q r' h=>by simp[pPrim]at h⟩
 | n+1=>by
  obtain⟨h1,h2,h3,h4,h5,h6⟩:=nodes_all st n
  have app:∀ (acc:List Qy) (q:Qy),nodesL (acc++[q])+(acc++[q]).length=nodesL acc+acc.length+nodes q+1:=fun acc q=>by
   rw[nodesL_app,Af]
   simp only[nodesL,AO,BL]
   omega
  refine⟨fun r q r' h=>?_,fun acc r q r' hne h=>?_,fun r q r' h=>?_,fun acc r q r' hne h=>?_,fun r q r' h=>?_,fun r q r' h=>?_⟩
  ·unfold pOr at h
   split at h
   ·cases h
   ·rename_i q1 r1 he
    have a:=h3 r q1 r1 he
    have b:=h2 [q1] r1 q r' (by simp) h
    simp only[nodesL,AO,BL]at b
    omega
  ·unfold lOr at h
   split at h
   ·rename_i ho
    have ht:=(tail_eats (isOp_ne ho)).2
    split at h
    ·cases h
    ·rename_i q1 r1 he
     have a:=h3 r.tail q1 r1 he
     have b:=h2 (acc++[q1]) r1 q r' (by simp) h
     rw[app]at b
     omega
   ·injection h with h;injection h with h h';rw[← h,← h']
    have:=joined_nodes 6 acc hne
    omega
  ·unfold pAnd at h
   split at h
   ·cases h
   ·rename_i q1 r1 he
    have a:=h5 r q1 r1 he
    have b:=h4 [q1] r1 q r' (by simp) h
    simp only[nodesL,AO,BL]at b
    omega
  ·unfold lAnd at h
   split at h
   ·rename_i ho
    have ht:=(tail_eats (isOp_ne ho)).2
    split at h
    ·cases h
    ·rename_i q1 r1 he
     have a:=h5 r.tail q1 r1 he
     have b:=h4 (acc++[q1]) r1 q r' (by simp) h
     rw[app]at b
     omega
   ·split at h
    ·split at h
     ·cases h
     ·rename_i q1 r1 he
      have a:=h5 r q1 r1 he
      have b:=h4 (acc++[q1]) r1 q r' (by simp) h
      rw[app]at b
      omega
    ·injection h with h;injection h with h h';rw[← h,← h']
     have:=joined_nodes 5 acc hne
     omega
  ·unfold pNot at h
   split at h
   ·cases h
   ·rename_i q1 r1 he
    have a:=h6 r q1 r1 he
    split at h
    ·rename_i ho
     have ht:=(tail_eats (isOp_ne ho)).2
     split at h
     ·cases h
     ·rename_i q2 r2 he2
      have b:=h6 _ _ _ he2
      injection h with h;injection h with h h';rw[← h,← h']
      simp only[nodes,nodesL]
      omega
    ·injection h with h;injection h with h h';rw[← h,← h']
     exact a
  ·unfold pPrim at h
   split at h
   ·rename_i hk
    have ht:=(tail_eats (r:=r) (by rw[hk];decide)).2
    split at h
    ·cases h
    ·rename_i q1 r1 he
     have a:=h1 _ _ _ he
     split at h
     ·rename_i h41
      have hc:=(tail_eats (r:=r1) (by rw[h41];decide)).2
      injection h with h;injection h with h h';rw[← h,← h']
      omega
     ·cases h
   ·exact Nb.leaf (eats_flat st r) (flat_leaf st r) q r' h
end Qr
theorem joined_c (B:Nat) (op:Int) (l:List BK) (a:Option Addr) (c:Nat) (w:A9) (hK:Qr.KA B w a c l) (hn:CJ l≤1000000) (hBw:B≤w.heap.size) :
  Ac A3 197 #[.int .i64 op,.slice a l.length c] w fun e w'=>∃ t,e=.returned (.agg (Dm t).toArray)∧Qr.QC B w' (Qr.joined op l) (Dm t)∧Below w.heap.size w w':=by
 by_cases h1:l.length=1
 ·match l,h1,hK with
  | [x],_,hK=>exact joined_1 B op x a c w hK
 ·exact joined_m B op l a c w hK h1 hn hBw
section
attribute [local go_sem] Iu Iv Iw
theorem and_c (g n:Nat) (l:List D7) (hl:l.length≤400000) (hSub:∀ (m:Nat) (r:List D7) (w:A9),m≤n→8*r.length+5≤m→CZ g l r w→Ac A3 250 #[.pointer (A2 ⟨g,0,A4⟩)] w (El g l (Kx true m r) w))
  (r:List D7) (w:A9) (hn:8*r.length+6≤n+1) (hP:CZ g l r w) :
  Ac A3 195 #[.pointer (A2 ⟨g,0,A4⟩)] w (El g l (Qr.pAnd true (n+1) r) w):=by
 obtain⟨i0,hi0,hz0,hz1,hz2⟩:=info_parts info_qy
 have HI:=J hi0;clear hi0
 have hgl:=hP.lt
 have hrl:=hP.suf.length_le
 have hmx:Au=9223372036854775807:=rfl
 have hP0:=hP.below (Aa w (.cells Ce 29))
 have h1:=fun w h=>hSub n r w (An _) (by omega) h
 have he:=(Lm true n).2.2.2.2.1 r
 have hb0:=(Qr.nodes_all true n).2.2.2.2.1 r
 have e0:Qr.pAnd true (n+1) r=match Kx true n r with
   | none=>A4
   | some (q,r')=>Mf true n [q] r':=by rw[Qr.pAnd];rfl
 cases ho:Kx true n r with
 | none =>
  rw[ho]at h1 e0
  rw[e0]
  clear he hb0 e0 hP hSub
  go_enter Tryz.func195,Tryz.ntmps195
  go_wp2_with (go_at_call 250;refine (h1 _ hP0).mono ?_;rintro e w1 hh;obtain⟨rfl,hF1⟩:=hh.bad;have hF1':Co g w w1:=((EN g w).alloc _).trans hF1)
  exact⟨rfl,rfl,hF1'⟩
 | some p =>
  obtain⟨q0,r0⟩:=p
  rw[ho]at h1 e0
  have hs0:=he q0 r0 ho
  have hn0:=hb0 q0 r0 ho
  obtain⟨X,hX⟩:∃ X,Mf true n [q0] r0=X:=⟨_,rfl⟩
  rw[e0]
  simp only
  rw[hX]
  have HX:=J hX
  clear he hb0 e0 hX ho hP
  go_enter Tryz.func195,Tryz.ntmps195
  go_wp2_with (go_at_call 250;refine (h1 _ hP0).mono ?_;rintro e w1 hh;obtain⟨qo,qf,qa,qb,qsa,qsn,qsc,qka,qkn,qkc,rfl,hq1,hP1,hF1⟩:=hh.get;clear hh;have s1:=hF1.size;simp only[Bn]at s1 hq1;have kR1:w1.heap[w.heap.size]?=A2 (.cells Ce 29 (0,0)):=(hF1.block w.heap.size (by omega) (by simp)).trans (Ar w _);have hF1':Co g w w1:=((EN g w).alloc _).trans hF1)
  go_loopw [3] (fun v wr=>∃ (m:Nat) (acc:List BK) (T:List Qr.QT) (r1:List D7),m≤n∧8*r1.length+6≤m∧Hid (Mf true m acc r1=X)∧Hid (acc≠[])∧CJ acc+acc.length+2*r1.length≤2*r.length∧Qr.HL (w.heap.size+1) wr v.ownBlock acc T∧wr.ownsRow (w.heap.size+1) 29 6 v T.length (T.flatMap Dm)∧CZ g l r1 wr∧wr.heap[w.heap.size]?=A2 (.cells Ce 29 (0,0))∧Co g w wr) (fun _ w=>l.length - Qr.atOf g w)
  case atStart =>
   refine⟨n,[q0],[⟨qo,qf,qsa,qsn,qsc,qa,qb,qka,qkn,qkc⟩],r0,An _,by omega,HX,J (by simp),by simp only[CJ,AO,BL];omega,Qr.HL.one' hq1 (Fg (Aa w1 _)) (An _) (fun b hb=>.inr (by have h9:w1.heap.size=b:=(by simpa [Value.ownBlock] using hb);omega)),Fs w1 #[.int .i64 qo,.int .i64 qf,.slice qsa qsn qsc,.int .i64 qa,.int .i64 qb,.slice qka qkn qkc] 1 (by omega) (by unfold Au;omega) rfl,hP1.below (Aa w1 _),Aj kR1 (Aa w1 _),hF1'.alloc _⟩
  case round =>
   obtain⟨m,acc,T,r1,hm,hmr,hLX,hne,hnd,hHL,hown,hPr,hR,hF⟩:=hrel
   have hTl:=hHL.1
   have hrs:=hPr.suf.length_le
   obtain⟨va,vc,rfl,hka⟩:=hHL.ka hown
   have hownb:∀ b,(Em va acc.length vc).ownBlock=A2 b→w.heap.size+1≤b∧b<wr.heap.size:=fun b hb=>hown.lt b hb
   have HOW:=J hownb;clear hownb
   obtain⟨k,hk⟩:∃ k,m=k+1:=⟨m - 1,by omega⟩
   subst hk
   have hws:=hF.size
   have hRl:=(AN.1 hR).1
   have hat:=hPr.at_
   have HAT:=J hat;clear hat
   have HRR:=J hR;clear hR
   obtain⟨A1,hA1⟩:∃ A1,l.length - r1.length=A1:=⟨_,rfl⟩
   have hw1:=Bj ((A1:Int)+1) ⟨by omega,by omega⟩
   have HA1:=J hA1
   by_cases ho:Kw Jr r1=true
   ·have hte1:=FP (Qr.isOp_ne ho)
    have hA2:(A1:Int)+1=((l.length - r1.tail.length:Nat):Int):=by
     have h1:=hte1.2
     rw[Ej]at h1 ⊢
     omega
    have HT1:=J hte1
    have HA2:=J hA2
    have HO:=J ho
    have hrt:=hte1.2
    clear hA2 hte1
    have h1s:=fun w h=>hSub k r1.tail w (by omega) (by omega) h
    have heS:=(Lm true k).2.2.2.2.1 r1.tail
    have hnS:=(Qr.nodes_all true k).2.2.2.2.1 r1.tail
    cases hsub:Kx true k r1.tail with
    | none =>
     rw[hsub]at h1s
     have hS:=h1s;clear h1s
     have HXN:Hid (X=A4):=J (by rw[← hLX.out,Mf,if_pos ho,hsub])
     clear heS hnS hsub hA1
     go_wp2_with (first
      |(go_at_call 250;refine (hS _ (hP3.adv HT1.out.1 HA2.out)).mono ?_;rintro e w5 hh;obtain⟨rfl,hF5⟩:=hh.bad;have hF5':Co g w w5:=hF.trans ((hF3.set rfl _).trans hF5))
      |(go_at_call 196;refine (is_c g l r1 Jr _ hP2).mono ?_;rintro e w3 ⟨rfl,hb3⟩;rw[HO.out];have s3:=hb3.size;have hP3:=hP2.below hb3;have hF3:Co g wr w3:=hF2.trans (.of_below hb3);obtain⟨pta,ptc,pc0,pc1,pfz⟩:=hP3.cells;rw[HA1.out]at pc1)
      |(go_at_call 196;refine (is_c g l r1 Jr _ hPr).mono ?_;rintro e w2 ⟨rfl,hb2⟩;rw[HO.out];have s2:=hb2.size;have hP2:=hPr.below hb2;have hF2:Co g wr w2:=.of_below hb2))
     refine⟨rfl,?_⟩
     rw[HXN.out]
     exact⟨rfl,hF5'⟩
    | some p =>
     obtain⟨q2,r2⟩:=p
     rw[hsub]at h1s
     have hS:=h1s;clear h1s
     have hes:=heS q2 r2 hsub
     have hns:=hnS q2 r2 hsub
     have hrl2:=hes.1.length_le
     have HXX:Hid (Mf true k (acc++[q2]) r2=X):=J (by rw[← hLX.out,Mf,if_pos ho,hsub])
     clear heS hnS hsub hA1
     go_wp2_with (first
      |(at_builtin;go_must (refine wpList_append_sl rfl _ _ 27 rfl (w.heap.size+1) 29 i0 _ 6 80 Ft HI.out hz0 hz1 hz2 rfl (by decide) _ T.length _ rfl (hown5.alloc _) (A2 ⟨_,0,A4⟩) 1 1 [.int .i64 qo,.int .i64 qf,.slice qsa qsn qsc,.int .i64 qa,.int .i64 qb,.slice qka qkn qkc] rfl rfl (fun h9=>by cases h9) (fun ad had=>by cases had;exact AR _ _ (by first | rfl | simp) _ _) (by simp[AT]) (by unfold Au;omega) (by omega) (by simp;omega) ?_);intro v' w7 hown7 hg7 hnil7)
      |(go_at_call 250;refine (hS _ (hP3.adv HT1.out.1 HA2.out)).mono ?_;rintro e w5 hh;obtain⟨qo,qf,qa,qb,qsa,qsn,qsc,qka,qkn,qkc,rfl,hq5,hP5,hF5⟩:=hh.get;clear hh;have s5:=hF5.size;have s5':w3.heap.size≤w5.heap.size:=(by simpa [CO] using s5);have hF35:Co g wr w5:=(hF3.set rfl _).trans hF5;have hown5:=hF35.own hown (show g<w.heap.size+1 by omega);have hBq:Hid ((w3.setCell ⟨g,1,A4⟩ (.int .i64 ((A1:Int)+1))).heap.size=w3.heap.size):=J (by simp[CO]))
      |(go_at_call 196;refine (is_c g l r1 Jr _ hP2).mono ?_;rintro e w3 ⟨rfl,hb3⟩;rw[HO.out];have s3:=hb3.size;have hP3:=hP2.below hb3;have hF3:Co g wr w3:=hF2.trans (.of_below hb3);obtain⟨pta,ptc,pc0,pc1,pfz⟩:=hP3.cells;rw[HA1.out]at pc1)
      |(go_at_call 196;refine (is_c g l r1 Jr _ hPr).mono ?_;rintro e w2 ⟨rfl,hb2⟩;rw[HO.out];have s2:=hb2.size;have hP2:=hPr.below hb2;have hF2:Co g wr w2:=.of_below hb2))
     have hHL5:=hHL.fr hF35 (show g<w.heap.size+1 by omega)
     have hHL6:=hHL5.fr ((EN g w5).alloc (.cells #[.int .i64 qo,.int .i64 qf,.slice qsa qsn qsc,.int .i64 qa,.int .i64 qb,.slice qka qkn qkc] 29)) (show g<w.heap.size+1 by omega)
     have hone:Qr.HL (w.heap.size+1) (w5.alloc (.cells #[.int .i64 qo,.int .i64 qf,.slice qsa qsn qsc,.int .i64 qa,.int .i64 qb,.slice qka qkn qkc] 29)) (Em va acc.length vc).ownBlock [q2] [⟨qo,qf,qsa,qsn,qsc,qa,qb,qka,qkn,qkc⟩]:=Qr.HL.one' hq5 (Fg (Aa w5 _)) (by have:=hBq.out;omega) (fun b hb=>.inl (by have:=HOW.out b hb;have:=hBq.out;omega))
     have hgb:Below (g+1) w5 w7:=((Ab (g+1) w5).alloc (by omega) _).grown hg7 (by simp;omega) (fun j hj=>by have:=HOW.out j hj;omega)
     have hP7:=hP5.low hgb
     have hR5:=(hF35.block w.heap.size (by omega) hRl).trans HRR.out
     have hR7:=(hg7.block w.heap.size (by simp;omega) (fun e=>by have:=HOW.out _ e.symm;omega)).trans (Aj hR5 (Aa w5 _))
     have hF7:Co g w w7:=((hF.trans hF35).alloc _).grown hg7 (fun j hj=>by have:=HOW.out j hj;omega)
     have hat7:=hP7.at_
     go_roundw
     case rel=>exact⟨k,acc++[q2],T++[⟨qo,qf,qsa,qsn,qsc,qa,qb,qka,qkn,qkc⟩],r2,by omega,by omega,HXX,J (by simp),by rw[Gr,Af];simp only[CJ,AO,BL];omega,(hHL6.app hone).grown hg7 hnil7,by rw[Af,BB];exact hown7,hP7,hR7,hF7⟩
     case measure=>rw[hat7,HAT.out];omega
   ·have ho':Kw Jr r1=false:=by simpa using ho
    have HO:=J ho'
    by_cases hg:I5 r1=true
    ·have HG:=J hg
     have h1s:=fun w h=>hSub k r1 w (by omega) (by omega) h
     have heS:=(Lm true k).2.2.2.2.1 r1
     have hnS:=(Qr.nodes_all true k).2.2.2.2.1 r1
     cases hsub:Kx true k r1 with
     | none =>
      rw[hsub]at h1s
      have hS:=h1s;clear h1s
      have HXN:Hid (X=A4):=J (by rw[← hLX.out,Mf,if_neg ho,if_pos hg,hsub])
      clear heS hnS hsub hA1
      go_wp2_with (first
       |(go_at_call 250;refine (hS _ (hP3)).mono ?_;rintro e w5 hh;obtain⟨rfl,hF5⟩:=hh.bad;have hF5':Co g w w5:=hF.trans (hF3.trans hF5))
       |(go_at_call 196;refine (is_c g l r1 Jr _ hP4).mono ?_;rintro e w3 ⟨rfl,hb3⟩;rw[HO.out];have s3:=hb3.size;have hP3:=hP4.below hb3;have hF3:Co g wr w3:=hF4.trans (.of_below hb3))
       |(go_at_call 251;refine (begins_c g l r1 _ hP2).mono ?_;rintro e w4 ⟨rfl,hb4⟩;rw[HG.out];have s4:=hb4.size;have hP4:=hP2.below hb4;have hF4:Co g wr w4:=hF2.trans (.of_below hb4))
       |(go_at_call 196;refine (is_c g l r1 Jr _ hPr).mono ?_;rintro e w2 ⟨rfl,hb2⟩;rw[HO.out];have s2:=hb2.size;have hP2:=hPr.below hb2;have hF2:Co g wr w2:=.of_below hb2))
      refine⟨rfl,?_⟩
      rw[HXN.out]
      exact⟨rfl,hF5'⟩
     | some p =>
      obtain⟨q2,r2⟩:=p
      rw[hsub]at h1s
      have hS:=h1s;clear h1s
      have hes:=heS q2 r2 hsub
      have hns:=hnS q2 r2 hsub
      have hrl2:=hes.1.length_le
      have HXX:Hid (Mf true k (acc++[q2]) r2=X):=J (by rw[← hLX.out,Mf,if_neg ho,if_pos hg,hsub])
      clear heS hnS hsub hA1
      go_wp2_with (first
       |(at_builtin;go_must (refine wpList_append_sl rfl _ _ 27 rfl (w.heap.size+1) 29 i0 _ 6 80 Ft HI.out hz0 hz1 hz2 rfl (by decide) _ T.length _ rfl (hown5.alloc _) (A2 ⟨_,0,A4⟩) 1 1 [.int .i64 qo,.int .i64 qf,.slice qsa qsn qsc,.int .i64 qa,.int .i64 qb,.slice qka qkn qkc] rfl rfl (fun h9=>by cases h9) (fun ad had=>by cases had;exact AR _ _ (by first | rfl | simp) _ _) (by simp[AT]) (by unfold Au;omega) (by omega) (by simp;omega) ?_);intro v' w7 hown7 hg7 hnil7)
       |(go_at_call 250;refine (hS _ (hP3)).mono ?_;rintro e w5 hh;obtain⟨qo,qf,qa,qb,qsa,qsn,qsc,qka,qkn,qkc,rfl,hq5,hP5,hF5⟩:=hh.get;clear hh;have s5:=hF5.size;have s5':w3.heap.size≤w5.heap.size:=s5;have hF35:Co g wr w5:=hF3.trans hF5;have hown5:=hF35.own hown (show g<w.heap.size+1 by omega);have hBq:Hid (w3.heap.size=w3.heap.size):=J rfl)
       |(go_at_call 196;refine (is_c g l r1 Jr _ hP4).mono ?_;rintro e w3 ⟨rfl,hb3⟩;rw[HO.out];have s3:=hb3.size;have hP3:=hP4.below hb3;have hF3:Co g wr w3:=hF4.trans (.of_below hb3))
       |(go_at_call 251;refine (begins_c g l r1 _ hP2).mono ?_;rintro e w4 ⟨rfl,hb4⟩;rw[HG.out];have s4:=hb4.size;have hP4:=hP2.below hb4;have hF4:Co g wr w4:=hF2.trans (.of_below hb4))
       |(go_at_call 196;refine (is_c g l r1 Jr _ hPr).mono ?_;rintro e w2 ⟨rfl,hb2⟩;rw[HO.out];have s2:=hb2.size;have hP2:=hPr.below hb2;have hF2:Co g wr w2:=.of_below hb2))
      have hHL5:=hHL.fr hF35 (show g<w.heap.size+1 by omega)
      have hHL6:=hHL5.fr ((EN g w5).alloc (.cells #[.int .i64 qo,.int .i64 qf,.slice qsa qsn qsc,.int .i64 qa,.int .i64 qb,.slice qka qkn qkc] 29)) (show g<w.heap.size+1 by omega)
      have hone:Qr.HL (w.heap.size+1) (w5.alloc (.cells #[.int .i64 qo,.int .i64 qf,.slice qsa qsn qsc,.int .i64 qa,.int .i64 qb,.slice qka qkn qkc] 29)) (Em va acc.length vc).ownBlock [q2] [⟨qo,qf,qsa,qsn,qsc,qa,qb,qka,qkn,qkc⟩]:=Qr.HL.one' hq5 (Fg (Aa w5 _)) (by have:=hBq.out;omega) (fun b hb=>.inl (by have:=HOW.out b hb;have:=hBq.out;omega))
      have hgb:Below (g+1) w5 w7:=((Ab (g+1) w5).alloc (by omega) _).grown hg7 (by simp;omega) (fun j hj=>by have:=HOW.out j hj;omega)
      have hP7:=hP5.low hgb
      have hR5:=(hF35.block w.heap.size (by omega) hRl).trans HRR.out
      have hR7:=(hg7.block w.heap.size (by simp;omega) (fun e=>by have:=HOW.out _ e.symm;omega)).trans (Aj hR5 (Aa w5 _))
      have hF7:Co g w w7:=((hF.trans hF35).alloc _).grown hg7 (fun j hj=>by have:=HOW.out j hj;omega)
      have hat7:=hP7.at_
      go_roundw
      case rel=>exact⟨k,acc++[q2],T++[⟨qo,qf,qsa,qsn,qsc,qa,qb,qka,qkn,qkc⟩],r2,by omega,by omega,HXX,J (by simp),by rw[Gr,Af];simp only[CJ,AO,BL];omega,(hHL6.app hone).grown hg7 hnil7,by rw[Af,BB];exact hown7,hP7,hR7,hF7⟩
      case measure=>rw[hat7,HAT.out];omega
    ·have hg':I5 r1=false:=by simpa using hg
     have HG:=J hg'
     have HXN:Hid (X=A2 (Qr.joined 5 acc,r1)):=J (by rw[← hLX.out,Mf,if_neg ho,if_neg hg])
     clear ho ho' hg hg' hA1
     go_wp2_with (first
      |(go_at_call 197;refine (joined_c (w.heap.size+1) 5 acc va vc _ (hka.fr hF4 (show g<w.heap.size+1 by omega)) (by omega) (by omega)).mono ?_;rintro e w9 ⟨⟨qo,qf,qsa,qsn,qsc,qa,qb,qka,qkn,qkc⟩,rfl,hq9,hb9⟩;simp only[Dm]at hq9;have s9:=hb9.size;have hF9:Co g wr w9:=hF4.trans (.of_below hb9);have hP9:=hP4.below hb9;have kR9:=(hF9.block w.heap.size (by omega) hRl).trans HRR.out;have z0:w9.cell? ⟨w.heap.size,0,A4⟩=A2 (.int .i64 0):=(Aq kR9).1 0;have z1:w9.cell? ⟨w.heap.size,1,A4⟩=A2 (.int .i64 0):=(Aq kR9).1 1;have z2:w9.cell? ⟨w.heap.size,2,A4⟩=A2 (.slice A4 0 0):=(Aq kR9).1 2;have z3:w9.cell? ⟨w.heap.size,3,A4⟩=A2 (.int .i64 0):=(Aq kR9).1 3;have z4:w9.cell? ⟨w.heap.size,4,A4⟩=A2 (.int .i64 0):=(Aq kR9).1 4;have z5:w9.cell? ⟨w.heap.size,5,A4⟩=A2 (.slice A4 0 0):=(Aq kR9).1 5;have fr9:∀ i,w9.frozen? ⟨w.heap.size,i,A4⟩=false:=(Aq kR9).2.1;obtain⟨ta9,tc9,kg9,_,_⟩:=hP9.blk;have KP9:=J kg9;clear kg9 kR9)
      |(go_at_call 251;refine (begins_c g l r1 _ hP2).mono ?_;rintro e w4 ⟨rfl,hb4⟩;rw[HG.out];have s4:=hb4.size;have hP4:=hP2.below hb4;have hF4:Co g wr w4:=hF2.trans (.of_below hb4))
      |(go_at_call 196;refine (is_c g l r1 Jr _ hPr).mono ?_;rintro e w2 ⟨rfl,hb2⟩;rw[HO.out];have s2:=hb2.size;have hP2:=hPr.below hb2;have hF2:Co g wr w2:=.of_below hb2))
     refine DF (v:=.agg #[.int .i64 qo,.int .i64 qf,.slice qsa qsn qsc,.int .i64 qa,.int .i64 qb,.slice qka qkn qkc]) (by simp[results,Tryz.results195,go_sem,z0,z1,z2,z3,z4,z5]) rfl ?_
     rw[HXN.out]
     exact⟨⟨qo,qf,qsa,qsn,qsc,qa,qb,qka,qkn,qkc⟩,rfl,(hq9.kp (GX (Jf _ _) (by omega) _ _ _ _ _ _)).mono (by omega),LF hP9 KP9.out (Hx (Ab _ _) (by omega) _ _ _ _ _ _) (Ek _) (Ik KP9.out (show g≠w.heap.size by omega) _ _ _ _ _ _) rfl,Hj (hF.trans hF9) (An _) _ _ _ _ _ _⟩
end
section
attribute [local go_sem] Iu Iv Iw
theorem or_c (g n:Nat) (l:List D7) (hl:l.length≤400000) (hSub:∀ (m:Nat) (r:List D7) (w:A9),m≤n→8*r.length+6≤m→CZ g l r w→Ac A3 195 #[.pointer (A2 ⟨g,0,A4⟩)] w (El g l (Qr.pAnd true m r) w))
  (r:List D7) (w:A9) (hn:8*r.length+7≤n+1) (hP:CZ g l r w) :
  Ac A3 117 #[.pointer (A2 ⟨g,0,A4⟩)] w (El g l (Qr.pOr true (n+1) r) w):=by
 obtain⟨i0,hi0,hz0,hz1,hz2⟩:=info_parts info_qy
 have HI:=J hi0;clear hi0
 have hgl:=hP.lt
 have hrl:=hP.suf.length_le
 have hmx:Au=9223372036854775807:=rfl
 have hP0:=hP.below (Aa w (.cells Ce 29))
 have h1:=fun w h=>hSub n r w (An _) (by omega) h
 have he:=(Lm true n).2.2.1 r
 have hb0:=(Qr.nodes_all true n).2.2.1 r
 have e0:Qr.pOr true (n+1) r=match Qr.pAnd true n r with
   | none=>A4
   | some (q,r')=>Qr.lOr true n [q] r':=by rw[Qr.pOr];rfl
 cases ho:Qr.pAnd true n r with
 | none =>
  rw[ho]at h1 e0
  rw[e0]
  clear he hb0 e0 hP hSub
  go_enter Tryz.func117,Tryz.ntmps117
  go_wp2_with (go_at_call 195;refine (h1 _ hP0).mono ?_;rintro e w1 hh;obtain⟨rfl,hF1⟩:=hh.bad;have hF1':Co g w w1:=((EN g w).alloc _).trans hF1)
  exact⟨rfl,rfl,hF1'⟩
 | some p =>
  obtain⟨q0,r0⟩:=p
  rw[ho]at h1 e0
  have hs0:=he q0 r0 ho
  have hn0:=hb0 q0 r0 ho
  obtain⟨X,hX⟩:∃ X,Qr.lOr true n [q0] r0=X:=⟨_,rfl⟩
  rw[e0]
  simp only
  rw[hX]
  have HX:=J hX
  clear he hb0 e0 hX ho hP
  go_enter Tryz.func117,Tryz.ntmps117
  go_wp2_with (go_at_call 195;refine (h1 _ hP0).mono ?_;rintro e w1 hh;obtain⟨qo,qf,qa,qb,qsa,qsn,qsc,qka,qkn,qkc,rfl,hq1,hP1,hF1⟩:=hh.get;clear hh;have s1:=hF1.size;simp only[Bn]at s1 hq1;have kR1:w1.heap[w.heap.size]?=A2 (.cells Ce 29 (0,0)):=(hF1.block w.heap.size (by omega) (by simp)).trans (Ar w _);have hF1':Co g w w1:=((EN g w).alloc _).trans hF1)
  go_loopw [3] (fun v wr=>∃ (m:Nat) (acc:List BK) (T:List Qr.QT) (r1:List D7),m≤n∧8*r1.length+7≤m∧Hid (Qr.lOr true m acc r1=X)∧Hid (acc≠[])∧CJ acc+acc.length+2*r1.length≤2*r.length∧Qr.HL (w.heap.size+1) wr v.ownBlock acc T∧wr.ownsRow (w.heap.size+1) 29 6 v T.length (T.flatMap Dm)∧CZ g l r1 wr∧wr.heap[w.heap.size]?=A2 (.cells Ce 29 (0,0))∧Co g w wr) (fun _ w=>l.length - Qr.atOf g w)
  case atStart =>
   refine⟨n,[q0],[⟨qo,qf,qsa,qsn,qsc,qa,qb,qka,qkn,qkc⟩],r0,An _,by omega,HX,J (by simp),by simp only[CJ,AO,BL];omega,Qr.HL.one' hq1 (Fg (Aa w1 _)) (An _) (fun b hb=>.inr (by have h9:w1.heap.size=b:=(by simpa [Value.ownBlock] using hb);omega)),Fs w1 #[.int .i64 qo,.int .i64 qf,.slice qsa qsn qsc,.int .i64 qa,.int .i64 qb,.slice qka qkn qkc] 1 (by omega) (by unfold Au;omega) rfl,hP1.below (Aa w1 _),Aj kR1 (Aa w1 _),hF1'.alloc _⟩
  case round =>
   obtain⟨m,acc,T,r1,hm,hmr,hLX,hne,hnd,hHL,hown,hPr,hR,hF⟩:=hrel
   have hTl:=hHL.1
   have hrs:=hPr.suf.length_le
   obtain⟨va,vc,rfl,hka⟩:=hHL.ka hown
   have hownb:∀ b,(Em va acc.length vc).ownBlock=A2 b→w.heap.size+1≤b∧b<wr.heap.size:=fun b hb=>hown.lt b hb
   have HOW:=J hownb;clear hownb
   obtain⟨k,hk⟩:∃ k,m=k+1:=⟨m - 1,by omega⟩
   subst hk
   have hws:=hF.size
   have hRl:=(AN.1 hR).1
   have hat:=hPr.at_
   have HAT:=J hat;clear hat
   have HRR:=J hR;clear hR
   obtain⟨A1,hA1⟩:∃ A1,l.length - r1.length=A1:=⟨_,rfl⟩
   have hw1:=Bj ((A1:Int)+1) ⟨by omega,by omega⟩
   have HA1:=J hA1
   by_cases ho:Kw Qr.orB r1=true
   ·have hte1:=FP (Qr.isOp_ne ho)
    have hA2:(A1:Int)+1=((l.length - r1.tail.length:Nat):Int):=by
     have h1:=hte1.2
     rw[Ej]at h1 ⊢
     omega
    have HT1:=J hte1
    have HA2:=J hA2
    have HO:=J ho
    have hrt:=hte1.2
    clear hA2 hte1
    have h1s:=fun w h=>hSub k r1.tail w (by omega) (by omega) h
    have heS:=(Lm true k).2.2.1 r1.tail
    have hnS:=(Qr.nodes_all true k).2.2.1 r1.tail
    cases hsub:Qr.pAnd true k r1.tail with
    | none =>
     rw[hsub]at h1s
     have hS:=h1s;clear h1s
     have HXN:Hid (X=A4):=J (by rw[← hLX.out,Qr.lOr,if_pos ho,hsub])
     clear heS hnS hsub hA1
     go_wp2_with (first
      |(go_at_call 195;refine (hS _ (hP2.adv HT1.out.1 HA2.out)).mono ?_;rintro e w5 hh;obtain⟨rfl,hF5⟩:=hh.bad;have hF5':Co g w w5:=hF.trans ((hF2.set rfl _).trans hF5))
      |(go_at_call 196;refine (is_c g l r1 Qr.orB _ hPr).mono ?_;rintro e w2 ⟨rfl,hb2⟩;rw[HO.out];have s2:=hb2.size;have hP2:=hPr.below hb2;have hF2:Co g wr w2:=.of_below hb2;obtain⟨pta,ptc,pc0,pc1,pfz⟩:=hP2.cells;rw[HA1.out]at pc1))
     refine⟨rfl,?_⟩
     rw[HXN.out]
     exact⟨rfl,hF5'⟩
    | some p =>
     obtain⟨q2,r2⟩:=p
     rw[hsub]at h1s
     have hS:=h1s;clear h1s
     have hes:=heS q2 r2 hsub
     have hns:=hnS q2 r2 hsub
     have hrl2:=hes.1.length_le
     have HXX:Hid (Qr.lOr true k (acc++[q2]) r2=X):=J (by rw[← hLX.out,Qr.lOr,if_pos ho,hsub])
     clear heS hnS hsub hA1
     go_wp2_with (first
      |(at_builtin;go_must (refine wpList_append_sl rfl _ _ 27 rfl (w.heap.size+1) 29 i0 _ 6 80 Ft HI.out hz0 hz1 hz2 rfl (by decide) _ T.length _ rfl (hown5.alloc _) (A2 ⟨_,0,A4⟩) 1 1 [.int .i64 qo,.int .i64 qf,.slice qsa qsn qsc,.int .i64 qa,.int .i64 qb,.slice qka qkn qkc] rfl rfl (fun h9=>by cases h9) (fun ad had=>by cases had;exact AR _ _ (by first | rfl | simp) _ _) (by simp[AT]) (by unfold Au;omega) (by omega) (by simp;omega) ?_);intro v' w7 hown7 hg7 hnil7)
      |(go_at_call 195;refine (hS _ (hP2.adv HT1.out.1 HA2.out)).mono ?_;rintro e w5 hh;obtain⟨qo,qf,qa,qb,qsa,qsn,qsc,qka,qkn,qkc,rfl,hq5,hP5,hF5⟩:=hh.get;clear hh;have s5:=hF5.size;have s5':w2.heap.size≤w5.heap.size:=(by simpa [CO] using s5);have hF35:Co g wr w5:=(hF2.set rfl _).trans hF5;have hown5:=hF35.own hown (show g<w.heap.size+1 by omega);have hBq:Hid ((w2.setCell ⟨g,1,A4⟩ (.int .i64 ((A1:Int)+1))).heap.size=w2.heap.size):=J (by simp[CO]))
      |(go_at_call 196;refine (is_c g l r1 Qr.orB _ hPr).mono ?_;rintro e w2 ⟨rfl,hb2⟩;rw[HO.out];have s2:=hb2.size;have hP2:=hPr.below hb2;have hF2:Co g wr w2:=.of_below hb2;obtain⟨pta,ptc,pc0,pc1,pfz⟩:=hP2.cells;rw[HA1.out]at pc1))
     have hHL5:=hHL.fr hF35 (show g<w.heap.size+1 by omega)
     have hHL6:=hHL5.fr ((EN g w5).alloc (.cells #[.int .i64 qo,.int .i64 qf,.slice qsa qsn qsc,.int .i64 qa,.int .i64 qb,.slice qka qkn qkc] 29)) (show g<w.heap.size+1 by omega)
     have hone:Qr.HL (w.heap.size+1) (w5.alloc (.cells #[.int .i64 qo,.int .i64 qf,.slice qsa qsn qsc,.int .i64 qa,.int .i64 qb,.slice qka qkn qkc] 29)) (Em va acc.length vc).ownBlock [q2] [⟨qo,qf,qsa,qsn,qsc,qa,qb,qka,qkn,qkc⟩]:=Qr.HL.one' hq5 (Fg (Aa w5 _)) (by have:=hBq.out;omega) (fun b hb=>.inl (by have:=HOW.out b hb;have:=hBq.out;omega))
     have hgb:Below (g+1) w5 w7:=((Ab (g+1) w5).alloc (by omega) _).grown hg7 (by simp;omega) (fun j hj=>by have:=HOW.out j hj;omega)
     have hP7:=hP5.low hgb
     have hR5:=(hF35.block w.heap.size (by omega) hRl).trans HRR.out
     have hR7:=(hg7.block w.heap.size (by simp;omega) (fun e=>by have:=HOW.out _ e.symm;omega)).trans (Aj hR5 (Aa w5 _))
     have hF7:Co g w w7:=((hF.trans hF35).alloc _).grown hg7 (fun j hj=>by have:=HOW.out j hj;omega)
     have hat7:=hP7.at_
     go_roundw
     case rel=>exact⟨k,acc++[q2],T++[⟨qo,qf,qsa,qsn,qsc,qa,qb,qka,qkn,qkc⟩],r2,by omega,by omega,HXX,J (by simp),by rw[Gr,Af];simp only[CJ,AO,BL];omega,(hHL6.app hone).grown hg7 hnil7,by rw[Af,BB];exact hown7,hP7,hR7,hF7⟩
     case measure=>rw[hat7,HAT.out];omega
   ·have ho':Kw Qr.orB r1=false:=by simpa using ho
    have HO:=J ho'
    have HXN:Hid (X=A2 (Qr.joined 6 acc,r1)):=J (by rw[← hLX.out,Qr.lOr,if_neg ho])
    clear ho ho' hA1
    go_wp2_with (first
     |(go_at_call 197;refine (joined_c (w.heap.size+1) 6 acc va vc _ (hka.fr hF2 (show g<w.heap.size+1 by omega)) (by omega) (by omega)).mono ?_;rintro e w9 ⟨⟨qo,qf,qsa,qsn,qsc,qa,qb,qka,qkn,qkc⟩,rfl,hq9,hb9⟩;simp only[Dm]at hq9;have s9:=hb9.size;have hF9:Co g wr w9:=hF2.trans (.of_below hb9);have hP9:=hP2.below hb9;have kR9:=(hF9.block w.heap.size (by omega) hRl).trans HRR.out;have z0:w9.cell? ⟨w.heap.size,0,A4⟩=A2 (.int .i64 0):=(Aq kR9).1 0;have z1:w9.cell? ⟨w.heap.size,1,A4⟩=A2 (.int .i64 0):=(Aq kR9).1 1;have z2:w9.cell? ⟨w.heap.size,2,A4⟩=A2 (.slice A4 0 0):=(Aq kR9).1 2;have z3:w9.cell? ⟨w.heap.size,3,A4⟩=A2 (.int .i64 0):=(Aq kR9).1 3;have z4:w9.cell? ⟨w.heap.size,4,A4⟩=A2 (.int .i64 0):=(Aq kR9).1 4;have z5:w9.cell? ⟨w.heap.size,5,A4⟩=A2 (.slice A4 0 0):=(Aq kR9).1 5;have fr9:∀ i,w9.frozen? ⟨w.heap.size,i,A4⟩=false:=(Aq kR9).2.1;obtain⟨ta9,tc9,kg9,_,_⟩:=hP9.blk;have KP9:=J kg9;clear kg9 kR9)
     |(go_at_call 196;refine (is_c g l r1 Qr.orB _ hPr).mono ?_;rintro e w2 ⟨rfl,hb2⟩;rw[HO.out];have s2:=hb2.size;have hP2:=hPr.below hb2;have hF2:Co g wr w2:=.of_below hb2))
    refine DF (v:=.agg #[.int .i64 qo,.int .i64 qf,.slice qsa qsn qsc,.int .i64 qa,.int .i64 qb,.slice qka qkn qkc]) (by simp[results,Tryz.results117,go_sem,z0,z1,z2,z3,z4,z5]) rfl ?_
    rw[HXN.out]
    exact⟨⟨qo,qf,qsa,qsn,qsc,qa,qb,qka,qkn,qkc⟩,rfl,(hq9.kp (GX (Jf _ _) (by omega) _ _ _ _ _ _)).mono (by omega),LF hP9 KP9.out (Hx (Ab _ _) (by omega) _ _ _ _ _ _) (Ek _) (Ik KP9.out (show g≠w.heap.size by omega) _ _ _ _ _ _) rfl,Hj (hF.trans hF9) (An _) _ _ _ _ _ _⟩
end
end Go.Proofs.YtlakomilichhnaaGreatDoor
